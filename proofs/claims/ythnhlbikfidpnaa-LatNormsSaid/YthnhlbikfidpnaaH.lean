/- Over and More on both sides; the order of atoms. -/
import Derived.Test.YthnhlbikfidpnaaG
namespace Go.Proofs.Ythnhlbikfidpnaa
open Go.RowKit
set_option maxHeartbeats 1000000
set_option maxRecDepth 100000

def vOver (x y : Vl) : Bool := if x.n = y.n then decide (y.text.num ≤ x.text.num) else decide (y.n < x.n)
def vMore (x y : Vl) : Vl := if vOver x y then x else y

theorem less107 (a b : Nm) (ha : Hid a.ok) (hb0 : Hid b.ok) (w : World) :
    Calls Try.prog 107 #[.agg (encN a), .agg (encN b)] w fun e w' => e = .returned (.bool (decide (a.num < b.num))) ∧ Below w.heap.size w w' := by
  go_enter Try.func107, Try.ntmps107
  go_wp2_with fail
  refine wp_region_quiet (C := fun W => Below (w.heap.size + 2) ((w.alloc (.cells (encN a) 61)).alloc (.cells (encN b) 61)) W) (by kernel_rfl) (by kernel_rfl) ((Below.refl _ _).drew) ?_
  repeat
    (refine wpQuiet_step (fun K hK => ?_)
     go_simp
     first
       | (refine hK _ ?_; clear hK K)
       | (apply Exists.intro
          refine ⟨fun W hW => ?_, hK _ ?_⟩
          (obtain ⟨hc, hf⟩ := bcB hW
           first
           | (go_simp; exact rfl)
           | (go_simp; go_at_call 122; (with_reducible refine (num122 a ha _).mono ?_); rintro e W2 ⟨rfl, hb⟩; exact ⟨rfl, hW.trans (hb.mono (by have := hW.size; simpa using this))⟩)
           | (go_simp; go_at_call 122; (with_reducible refine (num122 b hb0 _).mono ?_); rintro e W2 ⟨rfl, hb⟩; exact ⟨rfl, hW.trans (hb.mono (by have := hW.size; simpa using this))⟩))
          clear hK K))
  refine wpQuiet_nil ?_
  intro w2 hb2
  obtain ⟨hc, hf⟩ := bcB hb2
  go_wp2
  go_ret
  exact ⟨rfl, (((Below.refl _ _).alloc (Nat.le_refl _) _).alloc (by simp) _).trans (hb2.mono (by omega))⟩

theorem over83 (x y : Vl) (hx : Hid x.ok) (hy : Hid y.ok) (w : World) :
    Calls Try.prog 83 #[.agg (encV x), .agg (encV y)] w fun e w' => e = .returned (.bool (vOver x y)) ∧ Below w.heap.size w w' := by
  by_cases h1 : y.n < x.n
  · have HV : Hid (vOver x y = true) := by show vOver x y = true; unfold vOver; rw [if_neg (by omega)]; simpa using h1
    go_enter Try.func83, Try.ntmps83
    go_wp2
    go_ret
    exact ⟨by rw [HV.out]; rfl, ((Below.refl _ _).alloc (Nat.le_refl _) _).alloc (by simp) _⟩
  · by_cases h2 : x.n = y.n
    · have HV : Hid (vOver x y = !(decide (x.text.num < y.text.num))) := by
        show vOver x y = _
        unfold vOver
        rw [if_pos h2, Bool.eq_iff_iff]; simp
      have hd : decide (y.n < x.n) = false := by simpa using h1
      have hd2 : (x.n == y.n) = true := by simpa using h2
      clear h1 h2
      go_enter Try.func83, Try.ntmps83
      go_wp2_with fail
      refine (less107 x.text y.text hx.out.2 hy.out.2 _).mono ?_
      rintro e w1 ⟨rfl, hb1⟩
      go_wp2
      all_goals go_ret
      all_goals exact ⟨by rw [HV.out]; rfl, (((Below.refl _ _).alloc (Nat.le_refl _) _).alloc (by simp) _).trans (hb1.mono (by simp; omega))⟩
    · have HV : Hid (vOver x y = false) := by show vOver x y = false; unfold vOver; rw [if_neg h2]; simpa using h1
      have hd : decide (y.n < x.n) = false := by simpa using h1
      have hd2 : (x.n == y.n) = false := by simpa using h2
      clear h1 h2
      go_enter Try.func83, Try.ntmps83
      go_wp2
      go_ret
      exact ⟨by rw [HV.out]; rfl, ((Below.refl _ _).alloc (Nat.le_refl _) _).alloc (by simp) _⟩

theorem over84 (x y : Vl) (hx : Hid x.ok) (hy : Hid y.ok) (w : World) :
    Calls Try.prog 84 #[.agg (encV x), .agg (encV y)] w fun e w' => e = .returned (.bool (vOver x y)) ∧ Below w.heap.size w w' := by
  by_cases h2 : x.n = y.n
  · have HV : Hid (vOver x y = decide (y.text.num ≤ x.text.num)) := by show vOver x y = _; unfold vOver; rw [if_pos h2]
    have hd2 : (x.n != y.n) = false := by simpa using h2
    have hx2 : Hid x.text.ok := hx.out.2
    have hy2 : Hid y.text.ok := hy.out.2
    clear h2
    go_enter Try.func84, Try.ntmps84
    go_wp2_with fail
    refine wp_region_quiet (C := fun W => Below (w.heap.size + 2) ((w.alloc (.cells (encV x) 65)).alloc (.cells (encV y) 65)) W) (by kernel_rfl) (by kernel_rfl) ((Below.refl _ _).drew) ?_
    repeat
      (refine wpQuiet_step (fun K hK => ?_)
       go_simp
       first
         | (refine hK _ ?_; clear hK K)
         | (apply Exists.intro
            refine ⟨fun W hW => ?_, hK _ ?_⟩
            (obtain ⟨hc, hf⟩ := bcB hW
             first
             | (go_simp; exact rfl)
             | (go_simp; go_at_call 108; (with_reducible refine (num108 x.text hx2 _).mono ?_); rintro e W2 ⟨rfl, hb⟩; exact ⟨rfl, hW.trans (hb.mono (by have := hW.size; simpa using this))⟩)
             | (go_simp; go_at_call 108; (with_reducible refine (num108 y.text hy2 _).mono ?_); rintro e W2 ⟨rfl, hb⟩; exact ⟨rfl, hW.trans (hb.mono (by have := hW.size; simpa using this))⟩))
            clear hK K))
    refine wpQuiet_nil ?_
    intro w2 hb2
    obtain ⟨hc, hf⟩ := bcB hb2
    go_wp2
    go_ret
    exact ⟨by rw [HV.out]; rfl, (((Below.refl _ _).alloc (Nat.le_refl _) _).alloc (by simp) _).trans (hb2.mono (by omega))⟩
  · have HV : Hid (vOver x y = decide (y.n < x.n)) := by show vOver x y = _; unfold vOver; rw [if_neg h2]
    have hd2 : (x.n != y.n) = true := by simpa using h2
    clear h2
    go_enter Try.func84, Try.ntmps84
    go_wp2
    go_ret
    exact ⟨by rw [HV.out]; rfl, ((Below.refl _ _).alloc (Nat.le_refl _) _).alloc (by simp) _⟩

theorem more65 (x y : Vl) (hx : Hid x.ok) (hy : Hid y.ok) (w : World) :
    Calls Try.prog 65 #[.agg (encV x), .agg (encV y)] w fun e w' => e = .returned (.agg (encV (vMore x y))) ∧ Below w.heap.size w w' := by
  cases ho : vOver x y
  · have HV : Hid (vMore x y = y) := by show vMore x y = y; unfold vMore; rw [ho]; rfl
    have HO := Lib.hid ho
    clear ho
    go_enter Try.func65, Try.ntmps65
    go_wp2_with fail
    refine (over83 x y hx hy _).mono ?_
    rintro e w1 ⟨rfl, hb1⟩
    obtain ⟨hc, hf⟩ := bcell hb1
    have hz1 := hb1.size
    simp at hz1
    rw [HO.out]
    go_wp2
    exact bodyPost_ret (v := .agg (encV y)) (by simp [results, Try.results65, go_sem, hc, hf]) rfl ⟨by rw [HV.out], (((((((((((((Below.refl _ _).alloc (Nat.le_refl _) _).alloc (by simp) _).alloc (by first | (simp; done) | (simp; omega)) _).trans (hb1.mono (by first | (simp; done) | (simp; omega)))).setCell (by first | (simp; done) | (simp; omega)) _).setCell (by first | (simp; done) | (simp; omega)) _).setCell (by first | (simp; done) | (simp; omega)) _).setCell (by first | (simp; done) | (simp; omega)) _).setCell (by first | (simp; done) | (simp; omega)) _).setCell (by first | (simp; done) | (simp; omega)) _).setCell (by first | (simp; done) | (simp; omega)) _).setCell (by first | (simp; done) | (simp; omega)) _).setCell (by first | (simp; done) | (simp; omega)) _⟩
  · have HV : Hid (vMore x y = x) := by show vMore x y = x; unfold vMore; rw [ho]; rfl
    have HO := Lib.hid ho
    clear ho
    go_enter Try.func65, Try.ntmps65
    go_wp2_with fail
    refine (over83 x y hx hy _).mono ?_
    rintro e w1 ⟨rfl, hb1⟩
    obtain ⟨hc, hf⟩ := bcell hb1
    have hz1 := hb1.size
    simp at hz1
    rw [HO.out]
    go_wp2
    exact bodyPost_ret (v := .agg (encV x)) (by simp [results, Try.results65, go_sem, hc, hf]) rfl ⟨by rw [HV.out], (((((((((((((Below.refl _ _).alloc (Nat.le_refl _) _).alloc (by simp) _).alloc (by first | (simp; done) | (simp; omega)) _).trans (hb1.mono (by first | (simp; done) | (simp; omega)))).setCell (by first | (simp; done) | (simp; omega)) _).setCell (by first | (simp; done) | (simp; omega)) _).setCell (by first | (simp; done) | (simp; omega)) _).setCell (by first | (simp; done) | (simp; omega)) _).setCell (by first | (simp; done) | (simp; omega)) _).setCell (by first | (simp; done) | (simp; omega)) _).setCell (by first | (simp; done) | (simp; omega)) _).setCell (by first | (simp; done) | (simp; omega)) _).setCell (by first | (simp; done) | (simp; omega)) _⟩

theorem more77 (x y : Vl) (hx : Hid x.ok) (hy : Hid y.ok) (w : World) :
    Calls Try.prog 77 #[.agg (encV x), .agg (encV y)] w fun e w' => e = .returned (.agg (encV (vMore x y))) ∧ Below w.heap.size w w' := by
  cases ho : vOver x y
  · have HV : Hid (vMore x y = y) := by show vMore x y = y; unfold vMore; rw [ho]; rfl
    have HO := Lib.hid ho
    clear ho
    go_enter Try.func77, Try.ntmps77
    go_wp2_with fail
    refine (over84 x y hx hy _).mono ?_
    rintro e w1 ⟨rfl, hb1⟩
    obtain ⟨hc, hf⟩ := bcell hb1
    have hz1 := hb1.size
    simp at hz1
    rw [HO.out]
    go_wp2
    exact bodyPost_ret (v := .agg (encV y)) (by simp [results, Try.results77, go_sem, hc, hf]) rfl ⟨by rw [HV.out], (((((((((((((Below.refl _ _).alloc (Nat.le_refl _) _).alloc (by simp) _).alloc (by first | (simp; done) | (simp; omega)) _).trans (hb1.mono (by first | (simp; done) | (simp; omega)))).setCell (by first | (simp; done) | (simp; omega)) _).setCell (by first | (simp; done) | (simp; omega)) _).setCell (by first | (simp; done) | (simp; omega)) _).setCell (by first | (simp; done) | (simp; omega)) _).setCell (by first | (simp; done) | (simp; omega)) _).setCell (by first | (simp; done) | (simp; omega)) _).setCell (by first | (simp; done) | (simp; omega)) _).setCell (by first | (simp; done) | (simp; omega)) _).setCell (by first | (simp; done) | (simp; omega)) _⟩
  · have HV : Hid (vMore x y = x) := by show vMore x y = x; unfold vMore; rw [ho]; rfl
    have HO := Lib.hid ho
    clear ho
    go_enter Try.func77, Try.ntmps77
    go_wp2_with fail
    refine (over84 x y hx hy _).mono ?_
    rintro e w1 ⟨rfl, hb1⟩
    obtain ⟨hc, hf⟩ := bcell hb1
    have hz1 := hb1.size
    simp at hz1
    rw [HO.out]
    go_wp2
    exact bodyPost_ret (v := .agg (encV x)) (by simp [results, Try.results77, go_sem, hc, hf]) rfl ⟨by rw [HV.out], (((((((((((((Below.refl _ _).alloc (Nat.le_refl _) _).alloc (by simp) _).alloc (by first | (simp; done) | (simp; omega)) _).trans (hb1.mono (by first | (simp; done) | (simp; omega)))).setCell (by first | (simp; done) | (simp; omega)) _).setCell (by first | (simp; done) | (simp; omega)) _).setCell (by first | (simp; done) | (simp; omega)) _).setCell (by first | (simp; done) | (simp; omega)) _).setCell (by first | (simp; done) | (simp; omega)) _).setCell (by first | (simp; done) | (simp; omega)) _).setCell (by first | (simp; done) | (simp; omega)) _).setCell (by first | (simp; done) | (simp; omega)) _).setCell (by first | (simp; done) | (simp; omega)) _⟩


def kOrd (a b : Ky) : Int := if a = b then 0 else if kLess a b then -1 else 1
theorem order69 (a b : Am) (ha : Hid a.ok) (hb0 : Hid b.ok) (w : World) :
    Calls Try.prog 69 #[.agg (encA a), .agg (encA b)] w fun e w' => e = .returned (.int .i64 (kOrd a.k b.k)) ∧ Below w.heap.size w w' := by
  by_cases h1 : a.k = b.k
  · have HV : Hid (kOrd a.k b.k = 0) := by show kOrd a.k b.k = 0; unfold kOrd; rw [if_pos h1]
    have he : ∀ W, (Op.equalIn 10000 63 (.agg #[.int .u8 a.k.sort, .int .u16 a.k.cart, .int .u8 a.k.item.c0, .int .u8 a.k.item.c1, .int .u8 a.k.item.c2, .int .u8 a.k.item.c3, .int .u8 a.k.item.c4, .int .u8 a.k.item.c5, .int .u8 a.k.item.c6, .int .u8 a.k.item.c7, .int .u8 a.k.rep, .int .u32 a.k.seq]) (.agg #[.int .u8 b.k.sort, .int .u16 b.k.cart, .int .u8 b.k.item.c0, .int .u8 b.k.item.c1, .int .u8 b.k.item.c2, .int .u8 b.k.item.c3, .int .u8 b.k.item.c4, .int .u8 b.k.item.c5, .int .u8 b.k.item.c6, .int .u8 b.k.item.c7, .int .u8 b.k.rep, .int .u32 b.k.seq])).run Try.prog W = .ok true W := fun W => (equalIn63 9997 a.k b.k W).trans (by rw [decide_eq_true h1])
    clear h1
    go_enter Try.func69, Try.ntmps69
    go_wp2
    go_ret
    exact ⟨by rw [HV.out]; rfl, ((Below.refl _ _).alloc (Nat.le_refl _) _).alloc (by simp) _⟩
  · have he : ∀ W, (Op.equalIn 10000 63 (.agg #[.int .u8 a.k.sort, .int .u16 a.k.cart, .int .u8 a.k.item.c0, .int .u8 a.k.item.c1, .int .u8 a.k.item.c2, .int .u8 a.k.item.c3, .int .u8 a.k.item.c4, .int .u8 a.k.item.c5, .int .u8 a.k.item.c6, .int .u8 a.k.item.c7, .int .u8 a.k.rep, .int .u32 a.k.seq]) (.agg #[.int .u8 b.k.sort, .int .u16 b.k.cart, .int .u8 b.k.item.c0, .int .u8 b.k.item.c1, .int .u8 b.k.item.c2, .int .u8 b.k.item.c3, .int .u8 b.k.item.c4, .int .u8 b.k.item.c5, .int .u8 b.k.item.c6, .int .u8 b.k.item.c7, .int .u8 b.k.rep, .int .u32 b.k.seq])).run Try.prog W = .ok false W := fun W => (equalIn63 9997 a.k b.k W).trans (by rw [decide_eq_false h1])
    cases hl : kLess a.k b.k
    · have HV : Hid (kOrd a.k b.k = 1) := by show kOrd a.k b.k = 1; unfold kOrd; rw [if_neg h1, hl]; rfl
      have HL := Lib.hid hl
      clear h1 hl
      go_enter Try.func69, Try.ntmps69
      go_wp2_with fail
      refine (less96 a.k b.k ha.out.1 hb0.out.1 _).mono ?_
      rintro e w1 ⟨rfl, hb1⟩
      rw [HL.out]
      go_wp2
      go_ret
      exact ⟨by rw [HV.out]; rfl, (((Below.refl _ _).alloc (Nat.le_refl _) _).alloc (by simp) _).trans (hb1.mono (by simp; omega))⟩
    · have HV : Hid (kOrd a.k b.k = -1) := by show kOrd a.k b.k = -1; unfold kOrd; rw [if_neg h1, hl]; rfl
      have HL := Lib.hid hl
      clear h1 hl
      go_enter Try.func69, Try.ntmps69
      go_wp2_with fail
      refine (less96 a.k b.k ha.out.1 hb0.out.1 _).mono ?_
      rintro e w1 ⟨rfl, hb1⟩
      rw [HL.out]
      go_wp2
      go_ret
      exact ⟨by rw [HV.out]; rfl, (((Below.refl _ _).alloc (Nat.le_refl _) _).alloc (by simp) _).trans (hb1.mono (by simp; omega))⟩
end Go.Proofs.Ythnhlbikfidpnaa
