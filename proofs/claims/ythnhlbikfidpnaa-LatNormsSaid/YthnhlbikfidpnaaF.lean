/- Which values are right, which of two is over the other one, and the order of atoms. -/
import Derived.Test.YthnhlbikfidpnaaE
import Derived.Laws.EntriesVeiled
namespace Go.Proofs.Ythnhlbikfidpnaa
open Go.RowKit
set_option maxHeartbeats 400000
set_option maxRecDepth 100000

def stampErr (x : Int) : Int := if x % 256 < 16 ∧ x ≤ 1099511627775 then (if x / 256 % 4294967296 = 0 then 3 else 0) else 2
def Vl.bare (v : Vl) : Bool := decide (v.text = nm0)
def Vl.right (v : Vl) (sort : Int) : Bool :=
  if sort = 1 then v.bare && (v.n == 1 || v.n == 2)
  else if sort = 2 ∨ sort = 3 then v.bare && decide (1 ≤ v.n) && decide (v.n ≤ 4294967295)
  else if sort = 4 then stampErr v.n == 0 && (v.bare || v.text.right)
  else false
def Am.right (a : Am) : Bool := a.k.right && a.v.right a.k.sort

theorem stamped116 (x : Int) (hx : 0 ≤ x) (hx2 : x ≤ 18446744073709551615) (w : World) :
    Calls Try.prog 116 #[.int .u64 x] w fun e w' => e = .returned (.int .i64 (stampErr x)) ∧ w = w' := by
  by_cases h1 : x % 256 < 16
  · by_cases h2 : x ≤ 1099511627775
    · by_cases h3 : x / 256 % 4294967296 = 0
      · have hd : (x / 256 % 4294967296 == 0) = true := by simpa using h3
        have H3 := Lib.hid h3
        clear h3
        go_enter Try.func116, Try.ntmps116
        go_wp2_with (go_at_call 80; refine (unstamp80 x hx hx2 _).mono ?_; rintro e w' ⟨rfl, rfl⟩)
        go_ret
        exact ⟨by simp only [stampErr]; rw [if_pos ⟨h1, h2⟩, if_pos H3.out]; rfl, rfl⟩
      · have hd : (x / 256 % 4294967296 == 0) = false := by simpa using h3
        have H3 := Lib.hid h3
        clear h3
        go_enter Try.func116, Try.ntmps116
        go_wp2_with (go_at_call 80; refine (unstamp80 x hx hx2 _).mono ?_; rintro e w' ⟨rfl, rfl⟩)
        go_ret
        exact ⟨by simp only [stampErr]; rw [if_pos ⟨h1, h2⟩, if_neg H3.out]; rfl, rfl⟩
    · go_enter Try.func116, Try.ntmps116
      go_wp2_with (go_at_call 80; refine (unstamp80 x hx hx2 _).mono ?_; rintro e w' ⟨rfl, rfl⟩)
      go_ret
      exact ⟨by simp only [stampErr]; rw [if_neg (by omega)]; rfl, rfl⟩
  · go_enter Try.func116, Try.ntmps116
    go_wp2_with (go_at_call 80; refine (unstamp80 x hx hx2 _).mono ?_; rintro e w' ⟨rfl, rfl⟩)
    go_ret
    exact ⟨by simp only [stampErr]; rw [if_neg (by omega)]; rfl, rfl⟩

theorem bare111 (v : Vl) (w : World) : Calls Try.prog 111 #[.agg (encV v)] w fun e w' => e = .returned (.bool v.bare) ∧ Below w.heap.size w w' := by
  go_enter Try.func111, Try.ntmps111
  go_wp2_with fail
  refine (some74 v.text _).mono ?_
  rintro e w1 ⟨rfl, hb⟩
  go_wp2
  go_ret
  exact ⟨by simp [Vl.bare], ((Below.refl _ _).alloc (Nat.le_refl _) _).trans (hb.mono (by simp))⟩

theorem none113 (v : Vl) (w : World) : Calls Try.prog 113 #[.agg (encV v)] w fun e w' => e = .returned (.bool false) ∧ Below w.heap.size w w' := by
  go_enter Try.func113, Try.ntmps113
  go_wp2
  go_ret
  exact ⟨rfl, (Below.refl _ _).alloc (Nat.le_refl _) _⟩

theorem half112 (v : Vl) (b : Nat) (w : World) (hb : b < w.heap.size) (hcell : w.cell? ⟨b, 0, none⟩ = some (.func (.func 111) #[] #[])) :
    Calls Try.prog 112 #[.agg (encV v), .pointer (some ⟨b, 0, none⟩)] w fun e w' => e = .returned (.bool (v.bare && decide (1 ≤ v.n) && decide (v.n ≤ 4294967295))) ∧ Below w.heap.size w w' := by
  cases hv : v.bare
  all_goals
    have HV := Lib.hid hv
    clear hv
    go_enter Try.func112, Try.ntmps112
    go_wp2_with fail
    refine (bare111 v _).mono ?_
    rintro e w1 ⟨rfl, hb1⟩
    obtain ⟨hc, hf⟩ := bcell hb1
    rw [HV.out]
    go_wp2
    all_goals go_ret
    all_goals exact ⟨by first | (simp; done) | (simp; omega), ((Below.refl _ _).alloc (Nat.le_refl _) _).trans (hb1.mono (by simp))⟩

theorem tag114 (v : Vl) (b : Nat) (w : World) (hb : b < w.heap.size) (hcell : w.cell? ⟨b, 0, none⟩ = some (.func (.func 111) #[] #[])) :
    Calls Try.prog 114 #[.agg (encV v), .pointer (some ⟨b, 0, none⟩)] w fun e w' => e = .returned (.bool (v.bare && (v.n == 1 || v.n == 2))) ∧ Below w.heap.size w w' := by
  cases hv : v.bare
  all_goals
    have HV := Lib.hid hv
    clear hv
    go_enter Try.func114, Try.ntmps114
    go_wp2_with fail
    refine (bare111 v _).mono ?_
    rintro e w1 ⟨rfl, hb1⟩
    obtain ⟨hc, hf⟩ := bcell hb1
    rw [HV.out]
    go_wp2
    all_goals go_ret
    all_goals exact ⟨by first | (simp; done) | (simp_all; done) | (simp; omega), ((Below.refl _ _).alloc (Nat.le_refl _) _).trans (hb1.mono (by simp))⟩

theorem note115 (v : Vl) (hv0 : Hid v.ok) (b : Nat) (w : World) (hb : b < w.heap.size) (hcell : w.cell? ⟨b, 0, none⟩ = some (.func (.func 111) #[] #[])) :
    Calls Try.prog 115 #[.agg (encV v), .pointer (some ⟨b, 0, none⟩)] w fun e w' => e = .returned (.bool (stampErr v.n == 0 && (v.bare || v.text.right))) ∧ Below w.heap.size w w' := by
  cases hs : (stampErr v.n == 0)
  · go_enter Try.func115, Try.ntmps115
    go_wp2_with fail
    refine (stamped116 v.n hv0.out.1.1 hv0.out.1.2 _).mono ?_
    rintro e w1 ⟨rfl, rfl⟩
    go_wp2
    go_ret
    exact ⟨by simp, (Below.refl _ _).alloc (Nat.le_refl _) _⟩
  · cases hv : v.bare
    · have HV := Lib.hid hv
      clear hv
      go_enter Try.func115, Try.ntmps115
      go_wp2_with fail
      refine (stamped116 v.n hv0.out.1.1 hv0.out.1.2 _).mono ?_
      rintro e w1 ⟨rfl, rfl⟩
      go_wp2_with fail
      refine (bare111 v _).mono ?_
      rintro e w1 ⟨rfl, hb1⟩
      obtain ⟨hc, hf⟩ := bcell hb1
      have hz1 := hb1.size
      simp at hz1
      rw [HV.out]
      go_wp2_with fail
      refine (right75 v.text _).mono ?_
      rintro e w2 ⟨rfl, hb2⟩
      go_wp2
      go_ret
      exact ⟨by simp, (((Below.refl _ _).alloc (Nat.le_refl _) _).trans (hb1.mono (by simp))).trans (hb2.mono (by omega))⟩
    · have HV := Lib.hid hv
      clear hv
      go_enter Try.func115, Try.ntmps115
      go_wp2_with fail
      refine (stamped116 v.n hv0.out.1.1 hv0.out.1.2 _).mono ?_
      rintro e w1 ⟨rfl, rfl⟩
      go_wp2_with fail
      refine (bare111 v _).mono ?_
      rintro e w1 ⟨rfl, hb1⟩
      obtain ⟨hc, hf⟩ := bcell hb1
      rw [HV.out]
      go_wp2
      go_ret
      exact ⟨by simp, ((Below.refl _ _).alloc (Nat.le_refl _) _).trans (hb1.mono (by simp))⟩

abbrev rulesV (b : Nat) : Value := .agg #[.func (.func 113) #[] #[], .func (.func 114) #[] #[.pointer (some ⟨b, 0, none⟩)], .func (.func 112) #[] #[.pointer (some ⟨b, 0, none⟩)], .func (.func 112) #[] #[.pointer (some ⟨b, 0, none⟩)], .func (.func 115) #[] #[.pointer (some ⟨b, 0, none⟩)]]
theorem rules94 (w : World) : Calls Try.prog 94 #[] w fun e w' => ∃ b, e = .returned (rulesV b) ∧ Below w.heap.size w w' ∧ b < w'.heap.size ∧ w.heap.size ≤ b ∧ w'.cell? ⟨b, 0, none⟩ = some (.func (.func 111) #[] #[]) := by
  go_enter Try.func94, Try.ntmps94
  go_wp2
  exact bodyPost_ret (v := rulesV (w.heap.size + 1)) (by simp [results, Try.results94, go_sem]) rfl ⟨w.heap.size + 1, rfl, ((Below.refl _ _).alloc (Nat.le_refl _) _).alloc (by simp) _, by simp, by omega, by go_simp⟩

theorem Vl.right1 (v : Vl) {s : Int} (h : s = 1) : v.right s = (v.bare && (v.n == 1 || v.n == 2)) := by unfold Vl.right; rw [if_pos h]
theorem Vl.right23 (v : Vl) {s : Int} (h : s = 2 ∨ s = 3) : v.right s = (v.bare && decide (1 ≤ v.n) && decide (v.n ≤ 4294967295)) := by unfold Vl.right; rw [if_neg (by omega), if_pos h]
theorem Vl.right4 (v : Vl) {s : Int} (h : s = 4) : v.right s = (stampErr v.n == 0 && (v.bare || v.text.right)) := by unfold Vl.right; rw [if_neg (by omega), if_neg (by omega), if_pos h]
theorem Ky.sort_of {k : Ky} (h : k.right = true) : k.sort = 1 ∨ k.sort = 2 ∨ k.sort = 3 ∨ k.sort = 4 := by
  by_cases h4 : k.sort = 4
  · exact .inr (.inr (.inr h4))
  by_cases h1 : k.sort = 1
  · exact .inl h1
  by_cases h2 : k.sort = 2
  · exact .inr (.inl h2)
  by_cases h3 : k.sort = 3
  · exact .inr (.inr (.inl h3))
  rw [Ky.right0 h4 h1 h2 h3] at h
  cases h
theorem idx133_1 (a0 a1 a2 a3 a4 : Value) (W : World) : (Instr.index 133 (.agg #[a0, a1, a2, a3, a4]) (.int .u8 1)).run Try.prog W = .ok a1 W := by kernel_rfl
theorem idx133_2 (a0 a1 a2 a3 a4 : Value) (W : World) : (Instr.index 133 (.agg #[a0, a1, a2, a3, a4]) (.int .u8 2)).run Try.prog W = .ok a2 W := by kernel_rfl
theorem idx133_3 (a0 a1 a2 a3 a4 : Value) (W : World) : (Instr.index 133 (.agg #[a0, a1, a2, a3, a4]) (.int .u8 3)).run Try.prog W = .ok a3 W := by kernel_rfl
theorem idx133_4 (a0 a1 a2 a3 a4 : Value) (W : World) : (Instr.index 133 (.agg #[a0, a1, a2, a3, a4]) (.int .u8 4)).run Try.prog W = .ok a4 W := by kernel_rfl

set_option maxHeartbeats 4000000 in
theorem right64_no (a : Am) (w : World) (hk : a.k.right = false) :
    Calls Try.prog 64 #[.agg (encA a)] w fun e w' => e = .returned (.bool false) ∧ Below w.heap.size w w' := by
  have HK := Lib.hid hk
  clear hk
  go_enter Try.func64, Try.ntmps64
  go_wp2_with fail
  refine wp_region_quiet (C := fun W => Below (w.heap.size + 1) (w.alloc (.cells (encA a) 67)) W) (by kernel_rfl) (by kernel_rfl) ((Below.refl _ _).drew) ?_
  repeat
    (refine wpQuiet_step (fun K hK => ?_)
     go_simp
     first
       | (refine hK _ ?_; clear hK K)
       | (apply Exists.intro
          refine ⟨fun W hW => ?_, hK _ ?_⟩
          (obtain ⟨hc, hf⟩ := bcB hW
           first
           | (go_simp; exact rfl)
           | (go_simp; go_at_call 93; refine (right93 a.k _).mono ?_; rintro e W2 ⟨rfl, hb⟩; exact ⟨by rw [HK.out], hW.trans (hb.mono (by have := hW.size; simpa using this))⟩))
          clear hK K))
  refine wpQuiet_nil ?_
  intro w2 hb2
  obtain ⟨hc, hf⟩ := bcB hb2
  go_wp2
  go_ret
  exact ⟨rfl, ((Below.refl _ _).alloc (Nat.le_refl _) _).trans (hb2.mono (Nat.le_succ _))⟩

set_option maxHeartbeats 4000000 in
theorem right64_1 (a : Am) (w : World) (hk : a.k.right = true) (hs : a.k.sort = 1) :
    Calls Try.prog 64 #[.agg (encA a)] w fun e w' => e = .returned (.bool (a.v.bare && (a.v.n == 1 || a.v.n == 2))) ∧ Below w.heap.size w w' := by
  have HK := Lib.hid hk
  have hidx : ∀ (a0 a1 a2 a3 a4 : Value) (W : World), (Instr.index 133 (.agg #[a0, a1, a2, a3, a4]) (.int .u8 a.k.sort)).run Try.prog W = .ok a1 W := fun a0 a1 a2 a3 a4 W => by rw [hs]; exact idx133_1 a0 a1 a2 a3 a4 W
  clear hk hs
  go_enter Try.func64, Try.ntmps64
  go_wp2_with fail
  go_region_held3 (fun w' => (∀ q o, q < w.heap.size + 1 → w'.cell? ⟨q, o, none⟩ = (w.alloc (.cells (encA a) 67)).cell? ⟨q, o, none⟩) ∧ Below (w.heap.size + 1) (w.alloc (.cells (encA a) 67)) w')
    ((refine cellsC ?_; repeat (first | exact Below.refl _ _ | refine keepC ?_ (by simp) (by assumption) | refine Below.drew ?_ | refine Below.alloc ?_ (by first | omega | (simp; omega)) _)))
    (first | (go_at_call 93; refine (right93 a.k _).mono ?_; rintro e w1 ⟨rfl, hb1⟩; rw [HK.out]; have hz1 := hb1.size; simp at hz1) | (go_at_call 94; refine (rules94 _).mono ?_; rintro e w2 ⟨b, rfl, hb2, hbl, hbg, hbc⟩; have hz2 := hb2.size) | (go_at_call 114; refine (tag114 a.v b _ hbl hbc).mono ?_; rintro e w3 ⟨rfl, hb3⟩; have hz3 := hb3.size))
  go_wp2
  go_ret
  exact ⟨rfl, ((((Below.refl _ _).alloc (Nat.le_refl _) _).drew.trans (hb1.mono (by simp))).trans (hb2.mono (by omega))).trans (hb3.mono (by omega))⟩

set_option maxHeartbeats 4000000 in
theorem right64_2 (a : Am) (w : World) (hk : a.k.right = true) (hs : a.k.sort = 2) :
    Calls Try.prog 64 #[.agg (encA a)] w fun e w' => e = .returned (.bool (a.v.bare && decide (1 ≤ a.v.n) && decide (a.v.n ≤ 4294967295))) ∧ Below w.heap.size w w' := by
  have HK := Lib.hid hk
  have hidx : ∀ (a0 a1 a2 a3 a4 : Value) (W : World), (Instr.index 133 (.agg #[a0, a1, a2, a3, a4]) (.int .u8 a.k.sort)).run Try.prog W = .ok a2 W := fun a0 a1 a2 a3 a4 W => by rw [hs]; exact idx133_2 a0 a1 a2 a3 a4 W
  clear hk hs
  go_enter Try.func64, Try.ntmps64
  go_wp2_with fail
  go_region_held3 (fun w' => (∀ q o, q < w.heap.size + 1 → w'.cell? ⟨q, o, none⟩ = (w.alloc (.cells (encA a) 67)).cell? ⟨q, o, none⟩) ∧ Below (w.heap.size + 1) (w.alloc (.cells (encA a) 67)) w')
    ((refine cellsC ?_; repeat (first | exact Below.refl _ _ | refine keepC ?_ (by simp) (by assumption) | refine Below.drew ?_ | refine Below.alloc ?_ (by first | omega | (simp; omega)) _)))
    (first | (go_at_call 93; refine (right93 a.k _).mono ?_; rintro e w1 ⟨rfl, hb1⟩; rw [HK.out]; have hz1 := hb1.size; simp at hz1) | (go_at_call 94; refine (rules94 _).mono ?_; rintro e w2 ⟨b, rfl, hb2, hbl, hbg, hbc⟩; have hz2 := hb2.size) | (go_at_call 112; refine (half112 a.v b _ hbl hbc).mono ?_; rintro e w3 ⟨rfl, hb3⟩; have hz3 := hb3.size))
  go_wp2
  go_ret
  exact ⟨rfl, ((((Below.refl _ _).alloc (Nat.le_refl _) _).drew.trans (hb1.mono (by simp))).trans (hb2.mono (by omega))).trans (hb3.mono (by omega))⟩

set_option maxHeartbeats 4000000 in
theorem right64_3 (a : Am) (w : World) (hk : a.k.right = true) (hs : a.k.sort = 3) :
    Calls Try.prog 64 #[.agg (encA a)] w fun e w' => e = .returned (.bool (a.v.bare && decide (1 ≤ a.v.n) && decide (a.v.n ≤ 4294967295))) ∧ Below w.heap.size w w' := by
  have HK := Lib.hid hk
  have hidx : ∀ (a0 a1 a2 a3 a4 : Value) (W : World), (Instr.index 133 (.agg #[a0, a1, a2, a3, a4]) (.int .u8 a.k.sort)).run Try.prog W = .ok a3 W := fun a0 a1 a2 a3 a4 W => by rw [hs]; exact idx133_3 a0 a1 a2 a3 a4 W
  clear hk hs
  go_enter Try.func64, Try.ntmps64
  go_wp2_with fail
  go_region_held3 (fun w' => (∀ q o, q < w.heap.size + 1 → w'.cell? ⟨q, o, none⟩ = (w.alloc (.cells (encA a) 67)).cell? ⟨q, o, none⟩) ∧ Below (w.heap.size + 1) (w.alloc (.cells (encA a) 67)) w')
    ((refine cellsC ?_; repeat (first | exact Below.refl _ _ | refine keepC ?_ (by simp) (by assumption) | refine Below.drew ?_ | refine Below.alloc ?_ (by first | omega | (simp; omega)) _)))
    (first | (go_at_call 93; refine (right93 a.k _).mono ?_; rintro e w1 ⟨rfl, hb1⟩; rw [HK.out]; have hz1 := hb1.size; simp at hz1) | (go_at_call 94; refine (rules94 _).mono ?_; rintro e w2 ⟨b, rfl, hb2, hbl, hbg, hbc⟩; have hz2 := hb2.size) | (go_at_call 112; refine (half112 a.v b _ hbl hbc).mono ?_; rintro e w3 ⟨rfl, hb3⟩; have hz3 := hb3.size))
  go_wp2
  go_ret
  exact ⟨rfl, ((((Below.refl _ _).alloc (Nat.le_refl _) _).drew.trans (hb1.mono (by simp))).trans (hb2.mono (by omega))).trans (hb3.mono (by omega))⟩

set_option maxHeartbeats 4000000 in
theorem right64_4 (a : Am) (ha : Hid a.ok) (w : World) (hk : a.k.right = true) (hs : a.k.sort = 4) :
    Calls Try.prog 64 #[.agg (encA a)] w fun e w' => e = .returned (.bool (stampErr a.v.n == 0 && (a.v.bare || a.v.text.right))) ∧ Below w.heap.size w w' := by
  have HK := Lib.hid hk
  have hidx : ∀ (a0 a1 a2 a3 a4 : Value) (W : World), (Instr.index 133 (.agg #[a0, a1, a2, a3, a4]) (.int .u8 a.k.sort)).run Try.prog W = .ok a4 W := fun a0 a1 a2 a3 a4 W => by rw [hs]; exact idx133_4 a0 a1 a2 a3 a4 W
  clear hk hs
  go_enter Try.func64, Try.ntmps64
  go_wp2_with fail
  go_region_held3 (fun w' => (∀ q o, q < w.heap.size + 1 → w'.cell? ⟨q, o, none⟩ = (w.alloc (.cells (encA a) 67)).cell? ⟨q, o, none⟩) ∧ Below (w.heap.size + 1) (w.alloc (.cells (encA a) 67)) w')
    ((refine cellsC ?_; repeat (first | exact Below.refl _ _ | refine keepC ?_ (by simp) (by assumption) | refine Below.drew ?_ | refine Below.alloc ?_ (by first | omega | (simp; omega)) _)))
    (first | (go_at_call 93; refine (right93 a.k _).mono ?_; rintro e w1 ⟨rfl, hb1⟩; rw [HK.out]; have hz1 := hb1.size; simp at hz1) | (go_at_call 94; refine (rules94 _).mono ?_; rintro e w2 ⟨b, rfl, hb2, hbl, hbg, hbc⟩; have hz2 := hb2.size) | (go_at_call 115; refine (note115 a.v ha.out.2 b _ hbl hbc).mono ?_; rintro e w3 ⟨rfl, hb3⟩; have hz3 := hb3.size))
  go_wp2
  go_ret
  exact ⟨rfl, ((((Below.refl _ _).alloc (Nat.le_refl _) _).drew.trans (hb1.mono (by simp))).trans (hb2.mono (by omega))).trans (hb3.mono (by omega))⟩

theorem right64 (a : Am) (ha : Hid a.ok) (w : World) :
    Calls Try.prog 64 #[.agg (encA a)] w fun e w' => e = .returned (.bool a.right) ∧ Below w.heap.size w w' := by
  unfold Am.right
  cases hk : a.k.right
  · exact right64_no a w hk
  · rw [Bool.true_and]
    rcases Ky.sort_of hk with h | h | h | h
    · rw [Vl.right1 _ h]; exact right64_1 a w hk h
    · rw [Vl.right23 _ (.inl h)]; exact right64_2 a w hk h
    · rw [Vl.right23 _ (.inr h)]; exact right64_3 a w hk h
    · rw [Vl.right4 _ h]; exact right64_4 a ha w hk h

end Go.Proofs.Ythnhlbikfidpnaa
