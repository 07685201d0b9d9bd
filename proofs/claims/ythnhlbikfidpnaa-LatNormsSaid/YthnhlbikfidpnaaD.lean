/- Bits, keys and their words. -/
import Derived.Test.YthnhlbikfidpnaaC
import Derived.Test.YthnhlbikfidpnaaZ
import Derived.Deep.DeepCutAuto
import Derived.Deep.QuietTactic
import Derived.BigQuiet
namespace Go.Proofs.Ythnhlbikfidpnaa
open Go.RowKit
set_option maxHeartbeats 400000
set_option maxRecDepth 100000

def Ky.ok (k : Ky) : Prop := (0 ≤ k.sort ∧ k.sort ≤ 255) ∧ (0 ≤ k.cart ∧ k.cart ≤ 65535) ∧ k.item.ok ∧ (0 ≤ k.rep ∧ k.rep ≤ 255) ∧ (0 ≤ k.seq ∧ k.seq ≤ 4294967295)
def Vl.ok (v : Vl) : Prop := (0 ≤ v.n ∧ v.n ≤ 18446744073709551615) ∧ v.text.ok
def Am.ok (a : Am) : Prop := a.k.ok ∧ a.v.ok
def Ky.w0 (k : Ky) : Int := k.sort * 65536 + k.cart
abbrev Ky.w1 (k : Ky) : Int := k.item.num
def Ky.w2 (k : Ky) : Int := k.rep * 4294967296 + k.seq
abbrev encW (k : Ky) : Array Value := #[.int .u64 k.w0, .int .u64 k.w1, .int .u64 k.w2]

theorem or_w0 (a b : Int) (ha : 0 ≤ a) (ha2 : a ≤ 255) (hb : 0 ≤ b) (hb2 : b ≤ 65535) : bits BinOp.or IntKind.u64 (a * 65536) b = a * 65536 + b :=
  or_join 16 (by omega) _ _ (by omega) (by omega) (by omega) hb (by omega)
theorem or_w2 (a b : Int) (ha : 0 ≤ a) (ha2 : a ≤ 255) (hb : 0 ≤ b) (hb2 : b ≤ 4294967295) : bits BinOp.or IntKind.u64 (a * 4294967296) b = a * 4294967296 + b :=
  or_join 32 (by omega) _ _ (by omega) (by omega) (by omega) hb (by omega)

theorem dot135 (k : Ky) (hk : Hid k.ok) (w : World) :
    Calls Try.prog 135 #[.agg (encK k)] w fun e w' => e = .returned (.int .u64 k.w2) ∧ Below w.heap.size w w' := by
  have h1 := hk.out.2.2.2.1.1
  have h2 := hk.out.2.2.2.1.2
  have h3 := hk.out.2.2.2.2.1
  have h4 := hk.out.2.2.2.2.2
  have hor := Lib.hid (or_w2 k.rep k.seq h1 h2 h3 h4)
  go_enter Try.func135, Try.ntmps135
  go_wp2
  go_ret
  refine ⟨?_, (Below.refl _ _).alloc (Nat.le_refl _) _⟩
  simp only [Ky.w2, ← hor.out]
  rfl

theorem words119 (k : Ky) (hk : Hid k.ok) (w : World) :
    Calls Try.prog 119 #[.agg (encK k)] w fun e w' => e = .returned (.agg (encW k)) ∧ Below w.heap.size w w' := by
  have h1 := hk.out.1.1
  have h2 := hk.out.1.2
  have h3 := hk.out.2.1.1
  have h4 := hk.out.2.1.2
  have hor : bits BinOp.or IntKind.u64 (IntKind.u64.wrap (IntKind.u64.wrap k.sort * 65536)) (IntKind.u64.wrap k.cart) = k.w0 := by
    have e1 : IntKind.u64.wrap k.sort = k.sort := by rw [IntKind.wrap_u64]; omega
    have e2 : IntKind.u64.wrap (k.sort * 65536) = k.sort * 65536 := by rw [IntKind.wrap_u64]; omega
    have e3 : IntKind.u64.wrap k.cart = k.cart := by rw [IntKind.wrap_u64]; omega
    rw [e1, e2, e3]; exact or_w0 k.sort k.cart h1 h2 h3 h4
  clear h1 h2 h3 h4
  go_enter Try.func119, Try.ntmps119
  go_wp2_with fail
  refine wp_region_quiet_tail (C := fun W => Below (w.heap.size + 2) ((w.alloc (.cells (encK k) 63)).alloc (.cells #[.int .u64 0, .int .u64 0, .int .u64 0] 136)) W) 14 (by kernel_rfl) (by kernel_rfl) ((Below.refl _ _).drew) ?_
  simp only [List.take_succ_cons, List.take_zero, List.drop_succ_cons, List.drop_zero]
  repeat
    (refine wpQuiet_step (fun K hK => ?_)
     go_simp
     first
       | (refine hK _ ?_; clear hK K)
       | (apply Exists.intro
          refine ⟨fun W hW => ?_, hK _ ?_⟩
          (obtain ⟨hc, hf⟩ := bcB hW
           first
           | (go_simp; exact rfl)
           | (go_simp; go_at_call 122; refine (num122 k.item hk.out.2.2.1 _).mono ?_; rintro e W2 ⟨rfl, hb⟩; exact ⟨rfl, hW.trans (hb.mono (by have := hW.size; simpa using this))⟩)
           | (go_simp; go_at_call 135; refine (dot135 k hk _).mono ?_; rintro e W2 ⟨rfl, hb⟩; exact ⟨rfl, hW.trans (hb.mono (by have := hW.size; simpa using this))⟩))
          clear hK K))
  refine wpQuiet_nil ?_
  intro w2 hb2
  obtain ⟨hc, hf⟩ := bcB hb2
  have hz2 := hb2.size
  simp at hz2
  go_wp2
  exact bodyPost_ret (v := .agg (encW k)) (by simp [results, Try.results119, go_sem, hc, hf]) rfl ⟨rfl, ((((((Below.refl _ _).alloc (Nat.le_refl _) _).alloc (by simp) _).trans (hb2.mono (by omega))).setCell (by simp) _).setCell (by simp) _).setCell (by simp) _⟩

theorem words98 (k : Ky) (hk : Hid k.ok) (w : World) :
    Calls Try.prog 98 #[.agg (encK k)] w fun e w' => e = .returned (.agg (encW k)) ∧ Below w.heap.size w w' := by
  have h1 := hk.out.1.1
  have h2 := hk.out.1.2
  have h3 := hk.out.2.1.1
  have h4 := hk.out.2.1.2
  have h5 := hk.out.2.2.2.1.1
  have h6 := hk.out.2.2.2.1.2
  have h7 := hk.out.2.2.2.2.1
  have h8 := hk.out.2.2.2.2.2
  have e0 : IntKind.u64.wrap (IntKind.u64.wrap (IntKind.u64.wrap k.sort * 65536) + IntKind.u64.wrap k.cart) = k.w0 := by
    unfold Ky.w0; simp only [IntKind.wrap_u64]; omega
  have e2 : IntKind.u64.wrap (IntKind.u64.wrap (IntKind.u64.wrap k.rep * 4294967296) + IntKind.u64.wrap k.seq) = k.w2 := by
    unfold Ky.w2; simp only [IntKind.wrap_u64]; omega
  clear h1 h2 h3 h4 h5 h6 h7 h8
  go_enter Try.func98, Try.ntmps98
  go_wp2_with fail
  refine wp_region_quiet_tail (C := fun W => Below (w.heap.size + 2) ((w.alloc (.cells (encK k) 63)).alloc (.cells #[.int .u64 0, .int .u64 0, .int .u64 0] 136)) W) 20 (by kernel_rfl) (by kernel_rfl) ((Below.refl _ _).drew) ?_
  simp only [List.take_succ_cons, List.take_zero, List.drop_succ_cons, List.drop_zero]
  repeat
    (refine wpQuiet_step (fun K hK => ?_)
     go_simp
     first
       | (refine hK _ ?_; clear hK K)
       | (apply Exists.intro
          refine ⟨fun W hW => ?_, hK _ ?_⟩
          (obtain ⟨hc, hf⟩ := bcB hW
           first
           | (go_simp; exact rfl)
           | (go_simp; go_at_call 108; refine (num108 k.item hk.out.2.2.1 _).mono ?_; rintro e W2 ⟨rfl, hb⟩; exact ⟨rfl, hW.trans (hb.mono (by have := hW.size; simpa using this))⟩))
          clear hK K))
  refine wpQuiet_nil ?_
  intro w2 hb2
  obtain ⟨hc, hf⟩ := bcB hb2
  have hz2 := hb2.size
  simp at hz2
  go_wp2
  exact bodyPost_ret (v := .agg (encW k)) (by simp [results, Try.results98, go_sem, hc, hf]) rfl ⟨rfl, ((((((Below.refl _ _).alloc (Nat.le_refl _) _).alloc (by simp) _).trans (hb2.mono (by omega))).setCell (by simp) _).setCell (by simp) _).setCell (by simp) _⟩

theorem keepC {B : Nat} {W0 Wp w1 : World} (h : Below B W0 Wp) (hB : B ≤ W0.heap.size) (h1 : Below Wp.heap.size Wp w1) : Below B W0 w1 :=
  h.trans (h1.mono (Nat.le_trans hB h.size))
theorem cellsC {B : Nat} {W0 Wp : World} (h : Below B W0 Wp) : (∀ q o, q < B → Wp.cell? ⟨q, o, none⟩ = W0.cell? ⟨q, o, none⟩) ∧ Below B W0 Wp := ⟨(bcB h).1, h⟩

theorem belowN {B : Nat} {W0 W : World} (h : Below B W0 W) (n : Nat) : Below B W0 (W.drewN n) := ⟨h.os, h.tape, h.output, h.size, h.block⟩

def kLess (a b : Ky) : Bool := if a.w0 = b.w0 then (if a.w1 = b.w1 then decide (a.w2 < b.w2) else decide (a.w1 < b.w1)) else decide (a.w0 < b.w0)
abbrev zW : Array Value := #[.int .u64 0, .int .u64 0, .int .u64 0]
theorem info27 : Try.prog.info? 27 = some (Try.prog.types[27]!) := by kernel_rfl
theorem part27_0 (x0 x1 x2 : Value) (w : World) : (part 27 #[x0, x1, x2] (0 * Try.prog.cellsOf 27)).run Try.prog w = .ok x0 w := by kernel_rfl
theorem part27_1 (x0 x1 x2 : Value) (w : World) : (part 27 #[x0, x1, x2] (1 * Try.prog.cellsOf 27)).run Try.prog w = .ok x1 w := by kernel_rfl
theorem part27_2 (x0 x1 x2 : Value) (w : World) : (part 27 #[x0, x1, x2] (2 * Try.prog.cellsOf 27)).run Try.prog w = .ok x2 w := by kernel_rfl
theorem equalIn136 (d : Nat) (a0 a1 a2 b0 b1 b2 : Int) (w : World) : (Op.equalIn (d + 2) 136 (.agg #[.int .u64 a0, .int .u64 a1, .int .u64 a2]) (.agg #[.int .u64 b0, .int .u64 b1, .int .u64 b2])).run Try.prog w = .ok (a0 == b0 && (a1 == b1 && a2 == b2)) w := by
  rw [run_equalIn_array w (d + 1) (n := 3) (e := 27) _ _ (by kernel_rfl) info27]
  have h := (eqi_cons (part27_0 _ _ _ w) (part27_0 _ _ _ w) (run_equalIn_int w d 27 .u64 .u64 a0 b0 und27) (eqi_cons (part27_1 _ _ _ w) (part27_1 _ _ _ w) (run_equalIn_int w d 27 .u64 .u64 a1 b1 und27) (eqi_cons (part27_2 _ _ _ w) (part27_2 _ _ _ w) (run_equalIn_int w d 27 .u64 .u64 a2 b2 und27) eqi_nil)) : (Op.eqItems (d + 1) 27 (Try.prog.cellsOf 27) #[.int .u64 a0, .int .u64 a1, .int .u64 a2] #[.int .u64 b0, .int .u64 b1, .int .u64 b2] [0, 1, 2]).run Try.prog w = _)
  rw [show List.range 3 = [0, 1, 2] from rfl, h]
  simp
theorem less96 (a b : Ky) (ha : Hid a.ok) (hb : Hid b.ok) (w : World) :
    Calls Try.prog 96 #[.agg (encK a), .agg (encK b)] w fun e w' => e = .returned (.bool (kLess a b)) ∧ Below w.heap.size w w' := by
  go_enter Try.func96, Try.ntmps96
  go_wp2_with fail
  refine wp_region_inv (fun listed a' W => ∃ (l0 l1 l2 l3 l4 l5 l6 l7 : Bool) (v8 v9 v10 v11 v5 v6 : Value) (g5 g6 : Nat), listed = #[l0, l1, l2, l3, l4, l5, l6, l7] ∧ a' = { tmps := #[.agg (encK a), .agg (encK b), .pointer (some ⟨w.heap.size, 0, none⟩), .pointer (some ⟨w.heap.size + 1, 0, none⟩), .bool false, v5, v6, undef, v8, v9, v10, v11, undef, undef, undef, undef, undef, undef, undef, undef, undef, undef, undef, undef, undef, undef, undef, undef, undef, undef, undef], defers := [] } ∧ Below (w.heap.size + 2) ((w.alloc (.cells (encK a) 63)).alloc (.cells (encK b) 63)) W ∧
        (l0 = true → v8 = .agg (encK a)) ∧ (l1 = true → v9 = .agg (encW a)) ∧ (l2 = true → v10 = .agg (encK b)) ∧ (l3 = true → v11 = .agg (encW b)) ∧
        (l4 = true → v5 = .pointer (some ⟨g5, 0, none⟩) ∧ w.heap.size + 2 ≤ g5 ∧ Blk W g5 136 (if l6 then encW a else zW)) ∧
        (l5 = true → v6 = .pointer (some ⟨g6, 0, none⟩) ∧ w.heap.size + 2 ≤ g6 ∧ Blk W g6 136 (if l7 then encW b else zW)) ∧ (l4 = true → l5 = true → g5 ≠ g6) ∧ (l6 = true → l4 = true) ∧ (l7 = true → l5 = true)) (by kernel_rfl) ?_ ?_ ?_
  · exact ⟨false, false, false, false, false, false, false, false, undef, undef, undef, undef, undef, undef, 0, 0, rfl, rfl, (Below.refl _ _).drew, by simp, by simp, by simp, by simp, by simp, by simp, by simp, by simp, by simp⟩
  · rintro listed a' W ⟨l0, l1, l2, l3, l4, l5, l6, l7, v8, v9, v10, v11, v5, v6, g5, g6, rfl, rfl, hB, h8, h9, h10, h11, h5, h6, hne, h64, h75⟩ hr
    obtain rfl : l0 = true := listed_of_nil hr (i := 0) rfl (by simp [Region.binds])
    obtain rfl : l2 = true := listed_of_nil hr (i := 2) rfl (by simp [Region.binds])
    obtain rfl : l4 = true := listed_of_nil hr (i := 4) rfl (by simp [Region.binds])
    obtain rfl : l5 = true := listed_of_nil hr (i := 5) rfl (by simp [Region.binds])
    obtain rfl : l1 = true := listed_of_nil hr (i := 1) rfl (by simp [Region.binds])
    obtain rfl : l3 = true := listed_of_nil hr (i := 3) rfl (by simp [Region.binds])
    obtain rfl : l6 = true := listed_of_nil hr (i := 6) rfl (by simp [Region.binds])
    obtain rfl : l7 = true := listed_of_nil hr (i := 7) rfl (by simp [Region.binds])
    obtain rfl := h8 rfl
    obtain rfl := h9 rfl
    obtain rfl := h10 rfl
    obtain rfl := h11 rfl
    obtain ⟨rfl, hg5, hk5⟩ := h5 rfl
    obtain ⟨rfl, hg6, hk6⟩ := h6 rfl
    have hfB : Hid (Below w.heap.size w W) := (((Below.refl _ _).alloc (Nat.le_refl _) _).alloc (by simp) _).trans (hB.mono (by omega))
    have c50 : W.cell? ⟨g5, 0, none⟩ = some (.int .u64 a.w0) := hk5.cell 0
    have c51 : W.cell? ⟨g5, 1, none⟩ = some (.int .u64 a.w1) := hk5.cell 1
    have c52 : W.cell? ⟨g5, 2, none⟩ = some (.int .u64 a.w2) := hk5.cell 2
    have c60 : W.cell? ⟨g6, 0, none⟩ = some (.int .u64 b.w0) := hk6.cell 0
    have c61 : W.cell? ⟨g6, 1, none⟩ = some (.int .u64 b.w1) := hk6.cell 1
    have c62 : W.cell? ⟨g6, 2, none⟩ = some (.int .u64 b.w2) := hk6.cell 2
    clear h8 h9 h10 h11 h5 h6 h64 h75 hne hr hB hk5 hk6 hg5 hg6
    by_cases e0 : a.w0 = b.w0
    · by_cases e1 : a.w1 = b.w1
      · by_cases e2 : a.w2 = b.w2
        · have he : ∀ W, (Op.equalIn 10000 136 (.agg #[.int .u64 a.w0, .int .u64 a.w1, .int .u64 a.w2]) (.agg #[.int .u64 b.w0, .int .u64 b.w1, .int .u64 b.w2])).run Try.prog W = .ok true W := fun W => by
            have := equalIn136 9998 a.w0 a.w1 a.w2 b.w0 b.w1 b.w2 W
            rw [this]; simp [e0, e1, e2]
          have E0 := Lib.hid e0
          have E1 := Lib.hid e1
          have E2 := Lib.hid e2
          clear e0 e1 e2
          go_wp2
          go_ret
          exact ⟨by simp [kLess, E0.out, E1.out, E2.out], hfB.out⟩
        · have he : ∀ W, (Op.equalIn 10000 136 (.agg #[.int .u64 a.w0, .int .u64 a.w1, .int .u64 a.w2]) (.agg #[.int .u64 b.w0, .int .u64 b.w1, .int .u64 b.w2])).run Try.prog W = .ok false W := fun W => by
            have := equalIn136 9998 a.w0 a.w1 a.w2 b.w0 b.w1 b.w2 W
            rw [this]; simp [e0, e1, e2]
          have hd0 : (a.w0 == b.w0) = true := by simpa using e0
          have hd1 : (a.w1 == b.w1) = true := by simpa using e1
          have hd2 : (a.w2 == b.w2) = false := by simpa using e2
          have E0 := Lib.hid e0
          have E1 := Lib.hid e1
          have E2 := Lib.hid e2
          clear e0 e1 e2
          go_wp2
          go_loopw [7] (fun i wr => ∃ (j : Int) (q : Nat), 0 ≤ j ∧ j ≤ 2 ∧ i = .int .i64 j ∧ wr = W.drewN q) (fun i _ => 2 - (intOf i).toNat)
          case atStart => exact ⟨0, 0, by omega, by omega, rfl, rfl⟩
          case round =>
            obtain ⟨j, q, hj0, hj, rfl, rfl⟩ := hrel
            obtain rfl | rfl | rfl := (show j = 0 ∨ j = 1 ∨ j = 2 by omega)
            · clear hj0 hj
              go_wp2_with fail
              go_quiet (fail)
              go_wp2
              go_roundw
              case rel => exact ⟨1, _, by omega, by omega, rfl, rfl⟩
              case measure => simp [intOf]
            · clear hj0 hj
              go_wp2_with fail
              go_quiet (fail)
              go_wp2
              go_roundw
              case rel => exact ⟨2, _, by omega, by omega, rfl, rfl⟩
              case measure => simp [intOf]
            · clear hj0 hj
              go_wp2_with fail
              go_quiet (fail)
              go_wp2_with fail
              go_quiet (fail)
              go_wp2
              go_ret
              exact ⟨by simp [kLess, E0.out, E1.out, E2.out], belowN (belowN (belowN hfB.out _) _) _⟩
      · have he : ∀ W, (Op.equalIn 10000 136 (.agg #[.int .u64 a.w0, .int .u64 a.w1, .int .u64 a.w2]) (.agg #[.int .u64 b.w0, .int .u64 b.w1, .int .u64 b.w2])).run Try.prog W = .ok false W := fun W => by
          have := equalIn136 9998 a.w0 a.w1 a.w2 b.w0 b.w1 b.w2 W
          rw [this]; simp [e0, e1]
        have hd0 : (a.w0 == b.w0) = true := by simpa using e0
        have hd1 : (a.w1 == b.w1) = false := by simpa using e1
        have E0 := Lib.hid e0
        have E1 := Lib.hid e1
        clear e0 e1
        go_wp2
        go_loopw [7] (fun i wr => ∃ (j : Int) (q : Nat), 0 ≤ j ∧ j ≤ 1 ∧ i = .int .i64 j ∧ wr = W.drewN q) (fun i _ => 1 - (intOf i).toNat)
        case atStart => exact ⟨0, 0, by omega, by omega, rfl, rfl⟩
        case round =>
          obtain ⟨j, q, hj0, hj, rfl, rfl⟩ := hrel
          obtain rfl | rfl := (show j = 0 ∨ j = 1 by omega)
          · clear hj0 hj
            go_wp2_with fail
            go_quiet (fail)
            go_wp2
            go_roundw
            case rel => exact ⟨1, _, by omega, by omega, rfl, rfl⟩
            case measure => simp [intOf]
          · clear hj0 hj
            go_wp2_with fail
            go_quiet (fail)
            go_wp2_with fail
            go_quiet (fail)
            go_wp2
            go_ret
            exact ⟨by simp [kLess, E0.out, E1.out], belowN (belowN (belowN hfB.out _) _) _⟩
    · have he : ∀ W, (Op.equalIn 10000 136 (.agg #[.int .u64 a.w0, .int .u64 a.w1, .int .u64 a.w2]) (.agg #[.int .u64 b.w0, .int .u64 b.w1, .int .u64 b.w2])).run Try.prog W = .ok false W := fun W => by
        have := equalIn136 9998 a.w0 a.w1 a.w2 b.w0 b.w1 b.w2 W
        rw [this]; simp [e0]
      have hd0 : (a.w0 == b.w0) = false := by simpa using e0
      have E0 := Lib.hid e0
      clear e0
      go_wp2
      go_loopw [7] (fun i wr => ∃ (j : Int) (q : Nat), 0 ≤ j ∧ j ≤ 0 ∧ i = .int .i64 j ∧ wr = W.drewN q) (fun i _ => 0 - (intOf i).toNat)
      case atStart => exact ⟨0, 0, by omega, by omega, rfl, rfl⟩
      case round =>
        obtain ⟨j, q, hj0, hj, rfl, rfl⟩ := hrel
        obtain rfl : j = 0 := by omega
        clear hj0 hj
        go_wp2_with fail
        go_quiet (fail)
        go_wp2_with fail
        go_quiet (fail)
        go_wp2
        go_ret
        exact ⟨by simp [kLess, E0.out], belowN (belowN (belowN hfB.out _) _) _⟩
  · rintro listed a' W i ⟨l0, l1, l2, l3, l4, l5, l6, l7, v8, v9, v10, v11, v5, v6, g5, g6, rfl, rfl, hB, h8, h9, h10, h11, h5, h6, hne, h64, h75⟩ hi
    obtain ⟨hun, oi, hoi, hdeps⟩ := mem_ready.1 hi
    have hi8 : i < 8 := by have := (Array.getElem?_eq_some_iff.1 hoi).1; simpa using this
    obtain ⟨hc, hf⟩ := bcB hB
    have hz := hB.size
    simp at hz
    obtain rfl | rfl | rfl | rfl | rfl | rfl | rfl | rfl := (show i = 0 ∨ i = 1 ∨ i = 2 ∨ i = 3 ∨ i = 4 ∨ i = 5 ∨ i = 6 ∨ i = 7 by omega)
    · obtain rfl := Option.some.inj hoi
      obtain rfl : l0 = false := hun
      refine wpOp_of rfl rfl fun K hK => ?_
      go_simp
      exact hK _ _ ⟨true, l1, l2, l3, l4, l5, l6, l7, _, v9, v10, v11, v5, v6, g5, g6, rfl, rfl, hB, fun _ => rfl, h9, h10, h11, h5, h6, hne, h64, h75⟩
    · obtain rfl := Option.some.inj hoi
      obtain rfl : l0 = true := hdeps { on := 0, ground := .data } (by simp) rfl
      obtain rfl : l1 = false := hun
      obtain rfl := h8 rfl
      refine wpOp_of rfl rfl fun K hK => ?_
      go_simp
      refine (words119 a ha _).mono ?_
      rintro e W' ⟨rfl, hb1⟩
      exact hK _ _ ⟨true, true, l2, l3, l4, l5, l6, l7, _, _, v10, v11, v5, v6, g5, g6, rfl, rfl, hB.trans (hb1.mono (by omega)), fun _ => rfl, fun _ => rfl, h10, h11, fun h => ⟨(h5 h).1, (h5 h).2.1, (h5 h).2.2.ext hb1⟩, fun h => ⟨(h6 h).1, (h6 h).2.1, (h6 h).2.2.ext hb1⟩, hne, h64, h75⟩
    · obtain rfl := Option.some.inj hoi
      obtain rfl : l2 = false := hun
      refine wpOp_of rfl rfl fun K hK => ?_
      go_simp
      exact hK _ _ ⟨l0, l1, true, l3, l4, l5, l6, l7, v8, v9, _, v11, v5, v6, g5, g6, rfl, rfl, hB, h8, h9, fun _ => rfl, h11, h5, h6, hne, h64, h75⟩
    · obtain rfl := Option.some.inj hoi
      obtain rfl : l2 = true := hdeps { on := 2, ground := .data } (by simp) rfl
      obtain rfl : l3 = false := hun
      obtain rfl := h10 rfl
      refine wpOp_of rfl rfl fun K hK => ?_
      go_simp
      refine (words119 b hb _).mono ?_
      rintro e W' ⟨rfl, hb1⟩
      exact hK _ _ ⟨l0, l1, true, true, l4, l5, l6, l7, v8, v9, _, _, v5, v6, g5, g6, rfl, rfl, hB.trans (hb1.mono (by omega)), h8, h9, fun _ => rfl, fun _ => rfl, fun h => ⟨(h5 h).1, (h5 h).2.1, (h5 h).2.2.ext hb1⟩, fun h => ⟨(h6 h).1, (h6 h).2.1, (h6 h).2.2.ext hb1⟩, hne, h64, h75⟩
    · obtain rfl := Option.some.inj hoi
      obtain rfl : l4 = false := hun
      obtain rfl : l6 = false := by cases l6 with | false => rfl | true => exact absurd (h64 rfl) (by simp)
      refine wpOp_of rfl rfl fun K hK => ?_
      go_simp
      exact hK _ _ ⟨l0, l1, l2, l3, true, l5, false, l7, v8, v9, v10, v11, _, v6, W.heap.size, g6, rfl, rfl, hB.alloc (by omega) _, h8, h9, h10, h11, fun _ => ⟨rfl, by omega, Blk.new W 136 zW⟩, fun h => ⟨(h6 h).1, (h6 h).2.1, (h6 h).2.2.alloc _⟩, fun _ h => by have := (h6 h).2.2.lt; omega, fun _ => rfl, h75⟩
    · obtain rfl := Option.some.inj hoi
      obtain rfl : l5 = false := hun
      obtain rfl : l7 = false := by cases l7 with | false => rfl | true => exact absurd (h75 rfl) (by simp)
      refine wpOp_of rfl rfl fun K hK => ?_
      go_simp
      exact hK _ _ ⟨l0, l1, l2, l3, l4, true, l6, false, v8, v9, v10, v11, v5, _, g5, W.heap.size, rfl, rfl, hB.alloc (by omega) _, h8, h9, h10, h11, fun h => ⟨(h5 h).1, (h5 h).2.1, (h5 h).2.2.alloc _⟩, fun _ => ⟨rfl, by omega, Blk.new W 136 zW⟩, fun h _ => by have := (h5 h).2.2.lt; omega, h64, fun _ => rfl⟩
    · obtain rfl := Option.some.inj hoi
      obtain rfl : l4 = true := hdeps { on := 4, ground := .data } (by simp) rfl
      obtain rfl : l1 = true := hdeps { on := 1, ground := .data } (by simp) rfl
      obtain rfl : l6 = false := hun
      obtain rfl := h9 rfl
      obtain ⟨rfl, hg, hk⟩ := h5 rfl
      have c0 : W.cell? ⟨g5, 0, none⟩ = some (.int .u64 0) := hk.cell 0
      have f0 := hk.frozen 0
      have c1 : W.cell? ⟨g5, 1, none⟩ = some (.int .u64 0) := hk.cell 1
      have f1 := hk.frozen 1
      have c2 : W.cell? ⟨g5, 2, none⟩ = some (.int .u64 0) := hk.cell 2
      have f2 := hk.frozen 2
      refine wpOp_of rfl rfl fun K hK => ?_
      go_simp
      exact hK _ _ ⟨l0, true, l2, l3, true, l5, true, l7, v8, _, v10, v11, _, v6, g5, g6, rfl, rfl, ((hB.setCell (by simp; omega) _).setCell (by simp; omega) _).setCell (by simp; omega) _, h8, fun _ => rfl, h10, h11, fun _ => ⟨rfl, hg, ((hk.set_ 0 _).set_ 1 _).set_ 2 _⟩, fun h => ⟨(h6 h).1, (h6 h).2.1, (((h6 h).2.2.far (Ne.symm (hne rfl h)) _).far (Ne.symm (hne rfl h)) _).far (Ne.symm (hne rfl h)) _⟩, hne, fun _ => rfl, h75⟩
    · obtain rfl := Option.some.inj hoi
      obtain rfl : l5 = true := hdeps { on := 5, ground := .data } (by simp) rfl
      obtain rfl : l3 = true := hdeps { on := 3, ground := .data } (by simp) rfl
      obtain rfl : l7 = false := hun
      obtain rfl := h11 rfl
      obtain ⟨rfl, hg, hk⟩ := h6 rfl
      have c0 : W.cell? ⟨g6, 0, none⟩ = some (.int .u64 0) := hk.cell 0
      have f0 := hk.frozen 0
      have c1 : W.cell? ⟨g6, 1, none⟩ = some (.int .u64 0) := hk.cell 1
      have f1 := hk.frozen 1
      have c2 : W.cell? ⟨g6, 2, none⟩ = some (.int .u64 0) := hk.cell 2
      have f2 := hk.frozen 2
      refine wpOp_of rfl rfl fun K hK => ?_
      go_simp
      exact hK _ _ ⟨l0, l1, l2, true, l4, true, l6, true, v8, v9, v10, _, v5, _, g5, g6, rfl, rfl, ((hB.setCell (by simp; omega) _).setCell (by simp; omega) _).setCell (by simp; omega) _, h8, h9, h10, fun _ => rfl, fun h => ⟨(h5 h).1, (h5 h).2.1, (((h5 h).2.2.far (hne h rfl) _).far (hne h rfl) _).far (hne h rfl) _⟩, fun _ => ⟨rfl, hg, ((hk.set_ 0 _).set_ 1 _).set_ 2 _⟩, hne, h64, fun _ => rfl⟩


theorem less71 (a b : Ky) (ha : Hid a.ok) (hb : Hid b.ok) (w : World) :
    Calls Try.prog 71 #[.agg (encK a), .agg (encK b)] w fun e w' => e = .returned (.bool (kLess a b)) ∧ Below w.heap.size w w' := by
  go_enter Try.func71, Try.ntmps71
  go_wp2_with fail
  refine wp_region_inv (fun listed a' W => ∃ (l0 l1 l2 l3 l4 l5 l6 l7 : Bool) (v8 v9 v10 v11 v5 v6 : Value) (g5 g6 : Nat), listed = #[l0, l1, l2, l3, l4, l5, l6, l7] ∧ a' = { tmps := #[.agg (encK a), .agg (encK b), .pointer (some ⟨w.heap.size, 0, none⟩), .pointer (some ⟨w.heap.size + 1, 0, none⟩), .bool false, v5, v6, undef, v8, v9, v10, v11, undef, undef, undef, undef, undef, undef, undef, undef, undef, undef, undef, undef, undef, undef, undef, undef, undef, undef], defers := [] } ∧ Below (w.heap.size + 2) ((w.alloc (.cells (encK a) 63)).alloc (.cells (encK b) 63)) W ∧
        (l0 = true → v8 = .agg (encK a)) ∧ (l1 = true → v9 = .agg (encW a)) ∧ (l2 = true → v10 = .agg (encK b)) ∧ (l3 = true → v11 = .agg (encW b)) ∧
        (l4 = true → v5 = .pointer (some ⟨g5, 0, none⟩) ∧ w.heap.size + 2 ≤ g5 ∧ Blk W g5 136 (if l6 then encW a else zW)) ∧
        (l5 = true → v6 = .pointer (some ⟨g6, 0, none⟩) ∧ w.heap.size + 2 ≤ g6 ∧ Blk W g6 136 (if l7 then encW b else zW)) ∧ (l4 = true → l5 = true → g5 ≠ g6) ∧ (l6 = true → l4 = true) ∧ (l7 = true → l5 = true)) (by kernel_rfl) ?_ ?_ ?_
  · exact ⟨false, false, false, false, false, false, false, false, undef, undef, undef, undef, undef, undef, 0, 0, rfl, rfl, (Below.refl _ _).drew, by simp, by simp, by simp, by simp, by simp, by simp, by simp, by simp, by simp⟩
  · rintro listed a' W ⟨l0, l1, l2, l3, l4, l5, l6, l7, v8, v9, v10, v11, v5, v6, g5, g6, rfl, rfl, hB, h8, h9, h10, h11, h5, h6, hne, h64, h75⟩ hr
    obtain rfl : l0 = true := listed_of_nil hr (i := 0) rfl (by simp [Region.binds])
    obtain rfl : l2 = true := listed_of_nil hr (i := 2) rfl (by simp [Region.binds])
    obtain rfl : l4 = true := listed_of_nil hr (i := 4) rfl (by simp [Region.binds])
    obtain rfl : l5 = true := listed_of_nil hr (i := 5) rfl (by simp [Region.binds])
    obtain rfl : l1 = true := listed_of_nil hr (i := 1) rfl (by simp [Region.binds])
    obtain rfl : l3 = true := listed_of_nil hr (i := 3) rfl (by simp [Region.binds])
    obtain rfl : l6 = true := listed_of_nil hr (i := 6) rfl (by simp [Region.binds])
    obtain rfl : l7 = true := listed_of_nil hr (i := 7) rfl (by simp [Region.binds])
    obtain rfl := h8 rfl
    obtain rfl := h9 rfl
    obtain rfl := h10 rfl
    obtain rfl := h11 rfl
    obtain ⟨rfl, hg5, hk5⟩ := h5 rfl
    obtain ⟨rfl, hg6, hk6⟩ := h6 rfl
    have hfB : Hid (Below w.heap.size w W) := (((Below.refl _ _).alloc (Nat.le_refl _) _).alloc (by simp) _).trans (hB.mono (by omega))
    have c50 : W.cell? ⟨g5, 0, none⟩ = some (.int .u64 a.w0) := hk5.cell 0
    have c51 : W.cell? ⟨g5, 1, none⟩ = some (.int .u64 a.w1) := hk5.cell 1
    have c52 : W.cell? ⟨g5, 2, none⟩ = some (.int .u64 a.w2) := hk5.cell 2
    have c60 : W.cell? ⟨g6, 0, none⟩ = some (.int .u64 b.w0) := hk6.cell 0
    have c61 : W.cell? ⟨g6, 1, none⟩ = some (.int .u64 b.w1) := hk6.cell 1
    have c62 : W.cell? ⟨g6, 2, none⟩ = some (.int .u64 b.w2) := hk6.cell 2
    clear h8 h9 h10 h11 h5 h6 h64 h75 hne hr hB hk5 hk6 hg5 hg6
    by_cases e0 : a.w0 = b.w0
    · by_cases e1 : a.w1 = b.w1
      · by_cases e2 : a.w2 = b.w2
        · have hd0 : (a.w0 != b.w0) = false := by simpa using e0
          have hd1 : (a.w1 != b.w1) = false := by simpa using e1
          have hd2 : (a.w2 != b.w2) = false := by simpa using e2
          have E0 := Lib.hid e0
          have E1 := Lib.hid e1
          have E2 := Lib.hid e2
          clear e0 e1 e2
          go_wp2
          go_loopw [7] (fun i wr => ∃ (j : Int) (q : Nat), 0 ≤ j ∧ j ≤ 3 ∧ i = .int .i64 j ∧ wr = W.drewN q) (fun i _ => 3 - (intOf i).toNat)
          case atStart => exact ⟨0, 0, by omega, by omega, rfl, rfl⟩
          case round =>
            obtain ⟨j, q, hj0, hj, rfl, rfl⟩ := hrel
            obtain rfl | rfl | rfl | rfl := (show j = 0 ∨ j = 1 ∨ j = 2 ∨ j = 3 by omega)
            · clear hj0 hj
              go_wp2_with fail
              go_quiet (fail)
              go_wp2
              go_roundw
              case rel => exact ⟨1, _, by omega, by omega, rfl, rfl⟩
              case measure => simp [intOf]
            · clear hj0 hj
              go_wp2_with fail
              go_quiet (fail)
              go_wp2
              go_roundw
              case rel => exact ⟨2, _, by omega, by omega, rfl, rfl⟩
              case measure => simp [intOf]
            · clear hj0 hj
              go_wp2_with fail
              go_quiet (fail)
              go_wp2
              go_roundw
              case rel => exact ⟨3, _, by omega, by omega, rfl, rfl⟩
              case measure => simp [intOf]
            · clear hj0 hj
              go_wp2
              go_ret
              exact ⟨by simp [kLess, E0.out, E1.out, E2.out], belowN hfB.out _⟩
        · have hd0 : (a.w0 != b.w0) = false := by simpa using e0
          have hd1 : (a.w1 != b.w1) = false := by simpa using e1
          have hd2 : (a.w2 != b.w2) = true := by simpa using e2
          have E0 := Lib.hid e0
          have E1 := Lib.hid e1
          have E2 := Lib.hid e2
          clear e0 e1 e2
          go_wp2
          go_loopw [7] (fun i wr => ∃ (j : Int) (q : Nat), 0 ≤ j ∧ j ≤ 2 ∧ i = .int .i64 j ∧ wr = W.drewN q) (fun i _ => 2 - (intOf i).toNat)
          case atStart => exact ⟨0, 0, by omega, by omega, rfl, rfl⟩
          case round =>
            obtain ⟨j, q, hj0, hj, rfl, rfl⟩ := hrel
            obtain rfl | rfl | rfl := (show j = 0 ∨ j = 1 ∨ j = 2 by omega)
            · clear hj0 hj
              go_wp2_with fail
              go_quiet (fail)
              go_wp2
              go_roundw
              case rel => exact ⟨1, _, by omega, by omega, rfl, rfl⟩
              case measure => simp [intOf]
            · clear hj0 hj
              go_wp2_with fail
              go_quiet (fail)
              go_wp2
              go_roundw
              case rel => exact ⟨2, _, by omega, by omega, rfl, rfl⟩
              case measure => simp [intOf]
            · clear hj0 hj
              go_wp2_with fail
              go_quiet (fail)
              go_wp2_with fail
              go_quiet (fail)
              go_wp2
              go_ret
              exact ⟨by simp [kLess, E0.out, E1.out, E2.out], belowN (belowN (belowN hfB.out _) _) _⟩
      · have hd0 : (a.w0 != b.w0) = false := by simpa using e0
        have hd1 : (a.w1 != b.w1) = true := by simpa using e1
        have E0 := Lib.hid e0
        have E1 := Lib.hid e1
        clear e0 e1
        go_wp2
        go_loopw [7] (fun i wr => ∃ (j : Int) (q : Nat), 0 ≤ j ∧ j ≤ 1 ∧ i = .int .i64 j ∧ wr = W.drewN q) (fun i _ => 1 - (intOf i).toNat)
        case atStart => exact ⟨0, 0, by omega, by omega, rfl, rfl⟩
        case round =>
          obtain ⟨j, q, hj0, hj, rfl, rfl⟩ := hrel
          obtain rfl | rfl := (show j = 0 ∨ j = 1 by omega)
          · clear hj0 hj
            go_wp2_with fail
            go_quiet (fail)
            go_wp2
            go_roundw
            case rel => exact ⟨1, _, by omega, by omega, rfl, rfl⟩
            case measure => simp [intOf]
          · clear hj0 hj
            go_wp2_with fail
            go_quiet (fail)
            go_wp2_with fail
            go_quiet (fail)
            go_wp2
            go_ret
            exact ⟨by simp [kLess, E0.out, E1.out], belowN (belowN (belowN hfB.out _) _) _⟩
    · have hd0 : (a.w0 != b.w0) = true := by simpa using e0
      have E0 := Lib.hid e0
      clear e0
      go_wp2
      go_loopw [7] (fun i wr => ∃ (j : Int) (q : Nat), 0 ≤ j ∧ j ≤ 0 ∧ i = .int .i64 j ∧ wr = W.drewN q) (fun i _ => 0 - (intOf i).toNat)
      case atStart => exact ⟨0, 0, by omega, by omega, rfl, rfl⟩
      case round =>
        obtain ⟨j, q, hj0, hj, rfl, rfl⟩ := hrel
        obtain rfl : j = 0 := by omega
        clear hj0 hj
        go_wp2_with fail
        go_quiet (fail)
        go_wp2_with fail
        go_quiet (fail)
        go_wp2
        go_ret
        exact ⟨by simp [kLess, E0.out], belowN (belowN (belowN hfB.out _) _) _⟩
  · rintro listed a' W i ⟨l0, l1, l2, l3, l4, l5, l6, l7, v8, v9, v10, v11, v5, v6, g5, g6, rfl, rfl, hB, h8, h9, h10, h11, h5, h6, hne, h64, h75⟩ hi
    obtain ⟨hun, oi, hoi, hdeps⟩ := mem_ready.1 hi
    have hi8 : i < 8 := by have := (Array.getElem?_eq_some_iff.1 hoi).1; simpa using this
    obtain ⟨hc, hf⟩ := bcB hB
    have hz := hB.size
    simp at hz
    obtain rfl | rfl | rfl | rfl | rfl | rfl | rfl | rfl := (show i = 0 ∨ i = 1 ∨ i = 2 ∨ i = 3 ∨ i = 4 ∨ i = 5 ∨ i = 6 ∨ i = 7 by omega)
    · obtain rfl := Option.some.inj hoi
      obtain rfl : l0 = false := hun
      refine wpOp_of rfl rfl fun K hK => ?_
      go_simp
      exact hK _ _ ⟨true, l1, l2, l3, l4, l5, l6, l7, _, v9, v10, v11, v5, v6, g5, g6, rfl, rfl, hB, fun _ => rfl, h9, h10, h11, h5, h6, hne, h64, h75⟩
    · obtain rfl := Option.some.inj hoi
      obtain rfl : l0 = true := hdeps { on := 0, ground := .data } (by simp) rfl
      obtain rfl : l1 = false := hun
      obtain rfl := h8 rfl
      refine wpOp_of rfl rfl fun K hK => ?_
      go_simp
      refine (words98 a ha _).mono ?_
      rintro e W' ⟨rfl, hb1⟩
      exact hK _ _ ⟨true, true, l2, l3, l4, l5, l6, l7, _, _, v10, v11, v5, v6, g5, g6, rfl, rfl, hB.trans (hb1.mono (by omega)), fun _ => rfl, fun _ => rfl, h10, h11, fun h => ⟨(h5 h).1, (h5 h).2.1, (h5 h).2.2.ext hb1⟩, fun h => ⟨(h6 h).1, (h6 h).2.1, (h6 h).2.2.ext hb1⟩, hne, h64, h75⟩
    · obtain rfl := Option.some.inj hoi
      obtain rfl : l2 = false := hun
      refine wpOp_of rfl rfl fun K hK => ?_
      go_simp
      exact hK _ _ ⟨l0, l1, true, l3, l4, l5, l6, l7, v8, v9, _, v11, v5, v6, g5, g6, rfl, rfl, hB, h8, h9, fun _ => rfl, h11, h5, h6, hne, h64, h75⟩
    · obtain rfl := Option.some.inj hoi
      obtain rfl : l2 = true := hdeps { on := 2, ground := .data } (by simp) rfl
      obtain rfl : l3 = false := hun
      obtain rfl := h10 rfl
      refine wpOp_of rfl rfl fun K hK => ?_
      go_simp
      refine (words98 b hb _).mono ?_
      rintro e W' ⟨rfl, hb1⟩
      exact hK _ _ ⟨l0, l1, true, true, l4, l5, l6, l7, v8, v9, _, _, v5, v6, g5, g6, rfl, rfl, hB.trans (hb1.mono (by omega)), h8, h9, fun _ => rfl, fun _ => rfl, fun h => ⟨(h5 h).1, (h5 h).2.1, (h5 h).2.2.ext hb1⟩, fun h => ⟨(h6 h).1, (h6 h).2.1, (h6 h).2.2.ext hb1⟩, hne, h64, h75⟩
    · obtain rfl := Option.some.inj hoi
      obtain rfl : l4 = false := hun
      obtain rfl : l6 = false := by cases l6 with | false => rfl | true => exact absurd (h64 rfl) (by simp)
      refine wpOp_of rfl rfl fun K hK => ?_
      go_simp
      exact hK _ _ ⟨l0, l1, l2, l3, true, l5, false, l7, v8, v9, v10, v11, _, v6, W.heap.size, g6, rfl, rfl, hB.alloc (by omega) _, h8, h9, h10, h11, fun _ => ⟨rfl, by omega, Blk.new W 136 zW⟩, fun h => ⟨(h6 h).1, (h6 h).2.1, (h6 h).2.2.alloc _⟩, fun _ h => by have := (h6 h).2.2.lt; omega, fun _ => rfl, h75⟩
    · obtain rfl := Option.some.inj hoi
      obtain rfl : l5 = false := hun
      obtain rfl : l7 = false := by cases l7 with | false => rfl | true => exact absurd (h75 rfl) (by simp)
      refine wpOp_of rfl rfl fun K hK => ?_
      go_simp
      exact hK _ _ ⟨l0, l1, l2, l3, l4, true, l6, false, v8, v9, v10, v11, v5, _, g5, W.heap.size, rfl, rfl, hB.alloc (by omega) _, h8, h9, h10, h11, fun h => ⟨(h5 h).1, (h5 h).2.1, (h5 h).2.2.alloc _⟩, fun _ => ⟨rfl, by omega, Blk.new W 136 zW⟩, fun h _ => by have := (h5 h).2.2.lt; omega, h64, fun _ => rfl⟩
    · obtain rfl := Option.some.inj hoi
      obtain rfl : l4 = true := hdeps { on := 4, ground := .data } (by simp) rfl
      obtain rfl : l1 = true := hdeps { on := 1, ground := .data } (by simp) rfl
      obtain rfl : l6 = false := hun
      obtain rfl := h9 rfl
      obtain ⟨rfl, hg, hk⟩ := h5 rfl
      have c0 : W.cell? ⟨g5, 0, none⟩ = some (.int .u64 0) := hk.cell 0
      have f0 := hk.frozen 0
      have c1 : W.cell? ⟨g5, 1, none⟩ = some (.int .u64 0) := hk.cell 1
      have f1 := hk.frozen 1
      have c2 : W.cell? ⟨g5, 2, none⟩ = some (.int .u64 0) := hk.cell 2
      have f2 := hk.frozen 2
      refine wpOp_of rfl rfl fun K hK => ?_
      go_simp
      exact hK _ _ ⟨l0, true, l2, l3, true, l5, true, l7, v8, _, v10, v11, _, v6, g5, g6, rfl, rfl, ((hB.setCell (by simp; omega) _).setCell (by simp; omega) _).setCell (by simp; omega) _, h8, fun _ => rfl, h10, h11, fun _ => ⟨rfl, hg, ((hk.set_ 0 _).set_ 1 _).set_ 2 _⟩, fun h => ⟨(h6 h).1, (h6 h).2.1, (((h6 h).2.2.far (Ne.symm (hne rfl h)) _).far (Ne.symm (hne rfl h)) _).far (Ne.symm (hne rfl h)) _⟩, hne, fun _ => rfl, h75⟩
    · obtain rfl := Option.some.inj hoi
      obtain rfl : l5 = true := hdeps { on := 5, ground := .data } (by simp) rfl
      obtain rfl : l3 = true := hdeps { on := 3, ground := .data } (by simp) rfl
      obtain rfl : l7 = false := hun
      obtain rfl := h11 rfl
      obtain ⟨rfl, hg, hk⟩ := h6 rfl
      have c0 : W.cell? ⟨g6, 0, none⟩ = some (.int .u64 0) := hk.cell 0
      have f0 := hk.frozen 0
      have c1 : W.cell? ⟨g6, 1, none⟩ = some (.int .u64 0) := hk.cell 1
      have f1 := hk.frozen 1
      have c2 : W.cell? ⟨g6, 2, none⟩ = some (.int .u64 0) := hk.cell 2
      have f2 := hk.frozen 2
      refine wpOp_of rfl rfl fun K hK => ?_
      go_simp
      exact hK _ _ ⟨l0, l1, l2, true, l4, true, l6, true, v8, v9, v10, _, v5, _, g5, g6, rfl, rfl, ((hB.setCell (by simp; omega) _).setCell (by simp; omega) _).setCell (by simp; omega) _, h8, h9, h10, fun _ => rfl, fun h => ⟨(h5 h).1, (h5 h).2.1, (((h5 h).2.2.far (hne h rfl) _).far (hne h rfl) _).far (hne h rfl) _⟩, fun _ => ⟨rfl, hg, ((hk.set_ 0 _).set_ 1 _).set_ 2 _⟩, hne, h64, fun _ => rfl⟩

end Go.Proofs.Ythnhlbikfidpnaa
