/- order, told with the draws counted: what slices.SortFunc asks of its cmp. -/
import Derived.Test.YthnhlbikfidpnaaH
import Derived.Test.YthnhlbikfidpnaaX
namespace Go.Proofs.Ythnhlbikfidpnaa
open Go.RowKit
set_option maxHeartbeats 1000000
set_option maxRecDepth 100000
/-- Below, and no draw is taken back. -/
structure Bel (B : Nat) (w w' : World) : Prop extends Below B w w' where
  drawn : w.drawn ≤ w'.drawn
theorem Bel.refl (B : Nat) (w : World) : Bel B w w := ⟨Below.refl B w, Nat.le_refl _⟩
theorem Bel.trans {B : Nat} {a b c : World} (h : Bel B a b) (k : Bel B b c) : Bel B a c := ⟨h.toBelow.trans k.toBelow, Nat.le_trans h.drawn k.drawn⟩
theorem Bel.mono {B C : Nat} {a b : World} (h : Bel B a b) (hC : C ≤ B) : Bel C a b := ⟨h.toBelow.mono hC, h.drawn⟩
theorem Bel.alloc {B : Nat} {w0 w : World} (h : Bel B w0 w) (hB : B ≤ w.heap.size) (o : Obj) : Bel B w0 (w.alloc o) := ⟨h.toBelow.alloc hB o, h.drawn⟩
theorem Bel.drew {B : Nat} {w0 w : World} (h : Bel B w0 w) : Bel B w0 w.drew := ⟨h.toBelow.drew, Nat.le_succ_of_le h.drawn⟩
theorem Bel.setCell {B : Nat} {w0 w : World} {p : Addr} (h : Bel B w0 w) (hp : B ≤ p.block) (v : Value) : Bel B w0 (w.setCell p v) := ⟨h.toBelow.setCell hp v, h.drawn⟩
theorem belN {B : Nat} {W0 W : World} (h : Bel B W0 W) (n : Nat) : Bel B W0 (W.drewN n) := ⟨belowN h.toBelow n, Nat.le_trans h.drawn (Nat.le_add_right _ _)⟩
theorem bcG {B : Nat} {W w1 : World} (hb : Bel B W w1) : (∀ b o, b < B → w1.cell? ⟨b, o, none⟩ = W.cell? ⟨b, o, none⟩) ∧ (∀ b o, b < B → w1.frozen? ⟨b, o, none⟩ = W.frozen? ⟨b, o, none⟩) := bcB hb.toBelow
instance (B : Nat) (w w' : World) : Coe (Bel B w w') (Below B w w') := ⟨Bel.toBelow⟩
theorem num122g (n : Nm) (hn : Hid n.ok) (w : World) :
    Calls Try.prog 122 #[.agg (encN n)] w fun e w' => e = .returned (.int .u64 n.num) ∧ Bel w.heap.size w w' := by
  go_enter Try.func122, Try.ntmps122
  go_wp2
  go_loop [2, 6] (fun x i => ∃ j : Int, 0 ≤ j ∧ j ≤ 8 ∧ i = .int .i64 j ∧ x = .int .u64 (n.pre j.toNat)) (fun _ i => 8 - (intOf i).toNat)
  case atStart => exact ⟨0, by omega, by omega, rfl, rfl⟩
  case round =>
    obtain ⟨j, hj0, hj, rfl, rfl⟩ := hrel
    obtain rfl | hj8 : j = 8 ∨ j < 8 := by omega
    · clear hj0 hj
      go_wp2
      go_ret
      exact ⟨rfl, (Bel.refl _ _).alloc (Nat.le_refl _) _⟩
    · obtain rfl | rfl | rfl | rfl | rfl | rfl | rfl | rfl := (show j = 0 ∨ j = 1 ∨ j = 2 ∨ j = 3 ∨ j = 4 ∨ j = 5 ∨ j = 6 ∨ j = 7 by omega)
      · have i0 := idx61_0
        clear hj0 hj hj8
        go_wp2
        go_round
        case rel => exact ⟨1, by omega, by omega, rfl, by have h1 := Nm.pre_ok hn.out 0; have h2 := Nm.get_ok hn.out 0; exact congrArg _ (or_low (n.pre 0) (n.get 0) h1.1 (by omega) h2.1 h2.2)⟩
        case measure => simp [intOf]
      · have i0 := idx61_1
        clear hj0 hj hj8
        go_wp2
        go_round
        case rel => exact ⟨2, by omega, by omega, rfl, by have h1 := Nm.pre_ok hn.out 1; have h2 := Nm.get_ok hn.out 1; exact congrArg _ (or_low (n.pre 1) (n.get 1) h1.1 (by omega) h2.1 h2.2)⟩
        case measure => simp [intOf]
      · have i0 := idx61_2
        clear hj0 hj hj8
        go_wp2
        go_round
        case rel => exact ⟨3, by omega, by omega, rfl, by have h1 := Nm.pre_ok hn.out 2; have h2 := Nm.get_ok hn.out 2; exact congrArg _ (or_low (n.pre 2) (n.get 2) h1.1 (by omega) h2.1 h2.2)⟩
        case measure => simp [intOf]
      · have i0 := idx61_3
        clear hj0 hj hj8
        go_wp2
        go_round
        case rel => exact ⟨4, by omega, by omega, rfl, by have h1 := Nm.pre_ok hn.out 3; have h2 := Nm.get_ok hn.out 3; exact congrArg _ (or_low (n.pre 3) (n.get 3) h1.1 (by omega) h2.1 h2.2)⟩
        case measure => simp [intOf]
      · have i0 := idx61_4
        clear hj0 hj hj8
        go_wp2
        go_round
        case rel => exact ⟨5, by omega, by omega, rfl, by have h1 := Nm.pre_ok hn.out 4; have h2 := Nm.get_ok hn.out 4; exact congrArg _ (or_low (n.pre 4) (n.get 4) h1.1 (by omega) h2.1 h2.2)⟩
        case measure => simp [intOf]
      · have i0 := idx61_5
        clear hj0 hj hj8
        go_wp2
        go_round
        case rel => exact ⟨6, by omega, by omega, rfl, by have h1 := Nm.pre_ok hn.out 5; have h2 := Nm.get_ok hn.out 5; exact congrArg _ (or_low (n.pre 5) (n.get 5) h1.1 (by omega) h2.1 h2.2)⟩
        case measure => simp [intOf]
      · have i0 := idx61_6
        clear hj0 hj hj8
        go_wp2
        go_round
        case rel => exact ⟨7, by omega, by omega, rfl, by have h1 := Nm.pre_ok hn.out 6; have h2 := Nm.get_ok hn.out 6; exact congrArg _ (or_low (n.pre 6) (n.get 6) h1.1 (by omega) h2.1 h2.2)⟩
        case measure => simp [intOf]
      · have i0 := idx61_7
        clear hj0 hj hj8
        go_wp2
        go_round
        case rel => exact ⟨8, by omega, by omega, rfl, by have h1 := Nm.pre_ok hn.out 7; have h2 := Nm.get_ok hn.out 7; exact congrArg _ (or_low (n.pre 7) (n.get 7) h1.1 (by omega) h2.1 h2.2)⟩
        case measure => simp [intOf]

theorem dot135g (k : Ky) (hk : Hid k.ok) (w : World) :
    Calls Try.prog 135 #[.agg (encK k)] w fun e w' => e = .returned (.int .u64 k.w2) ∧ Bel w.heap.size w w' := by
  have h1 := hk.out.2.2.2.1.1
  have h2 := hk.out.2.2.2.1.2
  have h3 := hk.out.2.2.2.2.1
  have h4 := hk.out.2.2.2.2.2
  have hor := Lib.hid (or_w2 k.rep k.seq h1 h2 h3 h4)
  go_enter Try.func135, Try.ntmps135
  go_wp2
  go_ret
  refine ⟨?_, (Bel.refl _ _).alloc (Nat.le_refl _) _⟩
  simp only [Ky.w2, ← hor.out]
  rfl

theorem words119g (k : Ky) (hk : Hid k.ok) (w : World) :
    Calls Try.prog 119 #[.agg (encK k)] w fun e w' => e = .returned (.agg (encW k)) ∧ Bel w.heap.size w w' := by
  have h1 := hk.out.1.1
  have h2 := hk.out.1.2
  have h3 := hk.out.2.1.1
  have h4 := hk.out.2.1.2
  have hor : bits BinOp.or IntKind.u64 (IntKind.u64.wrap (IntKind.u64.wrap k.sort * 65536)) (IntKind.u64.wrap k.cart) = k.w0 := by
    have e1 : IntKind.u64.wrap k.sort = k.sort := by rw [IntKind.wrap_u64]; omega
    have e2 : IntKind.u64.wrap (k.sort * 65536) = k.sort * 65536 := by rw [IntKind.wrap_u64]; omega
    have e3 : IntKind.u64.wrap k.cart = k.cart := by rw [IntKind.wrap_u64]; omega
    rw [e1, e2, e3]; exact or_w0 k.sort k.cart h1 h2 h3 h4
  clear h1 h2 h3 h4
  go_enter Try.func119, Try.ntmps119
  go_wp2_with fail
  refine wp_region_quiet_tail (C := fun W => Bel (w.heap.size + 2) ((w.alloc (.cells (encK k) 63)).alloc (.cells #[.int .u64 0, .int .u64 0, .int .u64 0] 136)) W) 14 (by kernel_rfl) (by kernel_rfl) ((Bel.refl _ _).drew) ?_
  simp only [List.take_succ_cons, List.take_zero, List.drop_succ_cons, List.drop_zero]
  repeat
    (refine wpQuiet_step (fun K hK => ?_)
     go_simp
     first
       | (refine hK _ ?_; clear hK K)
       | (apply Exists.intro
          refine ⟨fun W hW => ?_, hK _ ?_⟩
          (obtain ⟨hc, hf⟩ := bcG hW
           first
           | (go_simp; exact rfl)
           | (go_simp; go_at_call 122; refine (num122g k.item hk.out.2.2.1 _).mono ?_; rintro e W2 ⟨rfl, hb⟩; exact ⟨rfl, hW.trans (hb.mono (by have := hW.size; simpa using this))⟩)
           | (go_simp; go_at_call 135; refine (dot135g k hk _).mono ?_; rintro e W2 ⟨rfl, hb⟩; exact ⟨rfl, hW.trans (hb.mono (by have := hW.size; simpa using this))⟩))
          clear hK K))
  refine wpQuiet_nil ?_
  intro w2 hb2
  obtain ⟨hc, hf⟩ := bcG hb2
  have hz2 := hb2.size
  simp at hz2
  go_wp2
  exact bodyPost_ret (v := .agg (encW k)) (by simp [results, Try.results119, go_sem, hc, hf]) rfl ⟨rfl, ((((((Bel.refl _ _).alloc (Nat.le_refl _) _).alloc (by simp) _).trans (hb2.mono (by omega))).setCell (by simp) _).setCell (by simp) _).setCell (by simp) _⟩

theorem less96g (a b : Ky) (ha : Hid a.ok) (hb : Hid b.ok) (w : World) :
    Calls Try.prog 96 #[.agg (encK a), .agg (encK b)] w fun e w' => e = .returned (.bool (kLess a b)) ∧ Bel w.heap.size w w' := by
  go_enter Try.func96, Try.ntmps96
  go_wp2_with fail
  refine wp_region_inv (fun listed a' W => ∃ (l0 l1 l2 l3 l4 l5 l6 l7 : Bool) (v8 v9 v10 v11 v5 v6 : Value) (g5 g6 : Nat), listed = #[l0, l1, l2, l3, l4, l5, l6, l7] ∧ a' = { tmps := #[.agg (encK a), .agg (encK b), .pointer (some ⟨w.heap.size, 0, none⟩), .pointer (some ⟨w.heap.size + 1, 0, none⟩), .bool false, v5, v6, undef, v8, v9, v10, v11, undef, undef, undef, undef, undef, undef, undef, undef, undef, undef, undef, undef, undef, undef, undef, undef, undef, undef, undef], defers := [] } ∧ Bel (w.heap.size + 2) ((w.alloc (.cells (encK a) 63)).alloc (.cells (encK b) 63)) W ∧
        (l0 = true → v8 = .agg (encK a)) ∧ (l1 = true → v9 = .agg (encW a)) ∧ (l2 = true → v10 = .agg (encK b)) ∧ (l3 = true → v11 = .agg (encW b)) ∧
        (l4 = true → v5 = .pointer (some ⟨g5, 0, none⟩) ∧ w.heap.size + 2 ≤ g5 ∧ Blk W g5 136 (if l6 then encW a else zW)) ∧
        (l5 = true → v6 = .pointer (some ⟨g6, 0, none⟩) ∧ w.heap.size + 2 ≤ g6 ∧ Blk W g6 136 (if l7 then encW b else zW)) ∧ (l4 = true → l5 = true → g5 ≠ g6) ∧ (l6 = true → l4 = true) ∧ (l7 = true → l5 = true)) (by kernel_rfl) ?_ ?_ ?_
  · exact ⟨false, false, false, false, false, false, false, false, undef, undef, undef, undef, undef, undef, 0, 0, rfl, rfl, (Bel.refl _ _).drew, by simp, by simp, by simp, by simp, by simp, by simp, by simp, by simp, by simp⟩
  · rintro listed a' W ⟨l0, l1, l2, l3, l4, l5, l6, l7, v8, v9, v10, v11, v5, v6, g5, g6, rfl, rfl, hB, h8, h9, h10, h11, h5, h6, hne, h64, h75⟩ hr
    obtain rfl : l0 = true := listed_of_nil hr (i := 0) rfl (by simp [Region.binds])
    obtain rfl : l2 = true := listed_of_nil hr (i := 2) rfl (by simp [Region.binds])
    obtain rfl : l4 = true := listed_of_nil hr (i := 4) rfl (by simp [Region.binds])
    obtain rfl : l5 = true := listed_of_nil hr (i := 5) rfl (by simp [Region.binds])
    obtain rfl : l1 = true := listed_of_nil hr (i := 1) rfl (by simp [Region.binds])
    obtain rfl : l3 = true := listed_of_nil hr (i := 3) rfl (by simp [Region.binds])
    obtain rfl : l6 = true := listed_of_nil hr (i := 6) rfl (by simp [Region.binds])
    obtain rfl : l7 = true := listed_of_nil hr (i := 7) rfl (by simp [Region.binds])
    obtain rfl := h8 rfl
    obtain rfl := h9 rfl
    obtain rfl := h10 rfl
    obtain rfl := h11 rfl
    obtain ⟨rfl, hg5, hk5⟩ := h5 rfl
    obtain ⟨rfl, hg6, hk6⟩ := h6 rfl
    have hfB : Hid (Bel w.heap.size w W) := (((Bel.refl _ _).alloc (Nat.le_refl _) _).alloc (by simp) _).trans (hB.mono (by omega))
    have c50 : W.cell? ⟨g5, 0, none⟩ = some (.int .u64 a.w0) := hk5.cell 0
    have c51 : W.cell? ⟨g5, 1, none⟩ = some (.int .u64 a.w1) := hk5.cell 1
    have c52 : W.cell? ⟨g5, 2, none⟩ = some (.int .u64 a.w2) := hk5.cell 2
    have c60 : W.cell? ⟨g6, 0, none⟩ = some (.int .u64 b.w0) := hk6.cell 0
    have c61 : W.cell? ⟨g6, 1, none⟩ = some (.int .u64 b.w1) := hk6.cell 1
    have c62 : W.cell? ⟨g6, 2, none⟩ = some (.int .u64 b.w2) := hk6.cell 2
    clear h8 h9 h10 h11 h5 h6 h64 h75 hne hr hB hk5 hk6 hg5 hg6
    by_cases e0 : a.w0 = b.w0
    · by_cases e1 : a.w1 = b.w1
      · by_cases e2 : a.w2 = b.w2
        · have he : ∀ W, (Op.equalIn 10000 136 (.agg #[.int .u64 a.w0, .int .u64 a.w1, .int .u64 a.w2]) (.agg #[.int .u64 b.w0, .int .u64 b.w1, .int .u64 b.w2])).run Try.prog W = .ok true W := fun W => by
            have := equalIn136 9998 a.w0 a.w1 a.w2 b.w0 b.w1 b.w2 W
            rw [this]; simp [e0, e1, e2]
          have E0 := Lib.hid e0
          have E1 := Lib.hid e1
          have E2 := Lib.hid e2
          clear e0 e1 e2
          go_wp2
          go_ret
          exact ⟨by simp [kLess, E0.out, E1.out, E2.out], hfB.out⟩
        · have he : ∀ W, (Op.equalIn 10000 136 (.agg #[.int .u64 a.w0, .int .u64 a.w1, .int .u64 a.w2]) (.agg #[.int .u64 b.w0, .int .u64 b.w1, .int .u64 b.w2])).run Try.prog W = .ok false W := fun W => by
            have := equalIn136 9998 a.w0 a.w1 a.w2 b.w0 b.w1 b.w2 W
            rw [this]; simp [e0, e1, e2]
          have hd0 : (a.w0 == b.w0) = true := by simpa using e0
          have hd1 : (a.w1 == b.w1) = true := by simpa using e1
          have hd2 : (a.w2 == b.w2) = false := by simpa using e2
          have E0 := Lib.hid e0
          have E1 := Lib.hid e1
          have E2 := Lib.hid e2
          clear e0 e1 e2
          go_wp2
          go_loopw [7] (fun i wr => ∃ (j : Int) (q : Nat), 0 ≤ j ∧ j ≤ 2 ∧ i = .int .i64 j ∧ wr = W.drewN q) (fun i _ => 2 - (intOf i).toNat)
          case atStart => exact ⟨0, 0, by omega, by omega, rfl, rfl⟩
          case round =>
            obtain ⟨j, q, hj0, hj, rfl, rfl⟩ := hrel
            obtain rfl | rfl | rfl := (show j = 0 ∨ j = 1 ∨ j = 2 by omega)
            · clear hj0 hj
              go_wp2_with fail
              go_quiet (fail)
              go_wp2
              go_roundw
              case rel => exact ⟨1, _, by omega, by omega, rfl, rfl⟩
              case measure => simp [intOf]
            · clear hj0 hj
              go_wp2_with fail
              go_quiet (fail)
              go_wp2
              go_roundw
              case rel => exact ⟨2, _, by omega, by omega, rfl, rfl⟩
              case measure => simp [intOf]
            · clear hj0 hj
              go_wp2_with fail
              go_quiet (fail)
              go_wp2_with fail
              go_quiet (fail)
              go_wp2
              go_ret
              exact ⟨by simp [kLess, E0.out, E1.out, E2.out], belN (belN (belN hfB.out _) _) _⟩
      · have he : ∀ W, (Op.equalIn 10000 136 (.agg #[.int .u64 a.w0, .int .u64 a.w1, .int .u64 a.w2]) (.agg #[.int .u64 b.w0, .int .u64 b.w1, .int .u64 b.w2])).run Try.prog W = .ok false W := fun W => by
          have := equalIn136 9998 a.w0 a.w1 a.w2 b.w0 b.w1 b.w2 W
          rw [this]; simp [e0, e1]
        have hd0 : (a.w0 == b.w0) = true := by simpa using e0
        have hd1 : (a.w1 == b.w1) = false := by simpa using e1
        have E0 := Lib.hid e0
        have E1 := Lib.hid e1
        clear e0 e1
        go_wp2
        go_loopw [7] (fun i wr => ∃ (j : Int) (q : Nat), 0 ≤ j ∧ j ≤ 1 ∧ i = .int .i64 j ∧ wr = W.drewN q) (fun i _ => 1 - (intOf i).toNat)
        case atStart => exact ⟨0, 0, by omega, by omega, rfl, rfl⟩
        case round =>
          obtain ⟨j, q, hj0, hj, rfl, rfl⟩ := hrel
          obtain rfl | rfl := (show j = 0 ∨ j = 1 by omega)
          · clear hj0 hj
            go_wp2_with fail
            go_quiet (fail)
            go_wp2
            go_roundw
            case rel => exact ⟨1, _, by omega, by omega, rfl, rfl⟩
            case measure => simp [intOf]
          · clear hj0 hj
            go_wp2_with fail
            go_quiet (fail)
            go_wp2_with fail
            go_quiet (fail)
            go_wp2
            go_ret
            exact ⟨by simp [kLess, E0.out, E1.out], belN (belN (belN hfB.out _) _) _⟩
    · have he : ∀ W, (Op.equalIn 10000 136 (.agg #[.int .u64 a.w0, .int .u64 a.w1, .int .u64 a.w2]) (.agg #[.int .u64 b.w0, .int .u64 b.w1, .int .u64 b.w2])).run Try.prog W = .ok false W := fun W => by
        have := equalIn136 9998 a.w0 a.w1 a.w2 b.w0 b.w1 b.w2 W
        rw [this]; simp [e0]
      have hd0 : (a.w0 == b.w0) = false := by simpa using e0
      have E0 := Lib.hid e0
      clear e0
      go_wp2
      go_loopw [7] (fun i wr => ∃ (j : Int) (q : Nat), 0 ≤ j ∧ j ≤ 0 ∧ i = .int .i64 j ∧ wr = W.drewN q) (fun i _ => 0 - (intOf i).toNat)
      case atStart => exact ⟨0, 0, by omega, by omega, rfl, rfl⟩
      case round =>
        obtain ⟨j, q, hj0, hj, rfl, rfl⟩ := hrel
        obtain rfl : j = 0 := by omega
        clear hj0 hj
        go_wp2_with fail
        go_quiet (fail)
        go_wp2_with fail
        go_quiet (fail)
        go_wp2
        go_ret
        exact ⟨by simp [kLess, E0.out], belN (belN (belN hfB.out _) _) _⟩
  · rintro listed a' W i ⟨l0, l1, l2, l3, l4, l5, l6, l7, v8, v9, v10, v11, v5, v6, g5, g6, rfl, rfl, hB, h8, h9, h10, h11, h5, h6, hne, h64, h75⟩ hi
    obtain ⟨hun, oi, hoi, hdeps⟩ := mem_ready.1 hi
    have hi8 : i < 8 := by have := (Array.getElem?_eq_some_iff.1 hoi).1; simpa using this
    obtain ⟨hc, hf⟩ := bcG hB
    have hz := hB.size
    simp at hz
    obtain rfl | rfl | rfl | rfl | rfl | rfl | rfl | rfl := (show i = 0 ∨ i = 1 ∨ i = 2 ∨ i = 3 ∨ i = 4 ∨ i = 5 ∨ i = 6 ∨ i = 7 by omega)
    · obtain rfl := Option.some.inj hoi
      obtain rfl : l0 = false := hun
      refine wpOp_of rfl rfl fun K hK => ?_
      go_simp
      exact hK _ _ ⟨true, l1, l2, l3, l4, l5, l6, l7, _, v9, v10, v11, v5, v6, g5, g6, rfl, rfl, hB, fun _ => rfl, h9, h10, h11, h5, h6, hne, h64, h75⟩
    · obtain rfl := Option.some.inj hoi
      obtain rfl : l0 = true := hdeps { on := 0, ground := .data } (by simp) rfl
      obtain rfl : l1 = false := hun
      obtain rfl := h8 rfl
      refine wpOp_of rfl rfl fun K hK => ?_
      go_simp
      refine (words119g a ha _).mono ?_
      rintro e W' ⟨rfl, hb1⟩
      exact hK _ _ ⟨true, true, l2, l3, l4, l5, l6, l7, _, _, v10, v11, v5, v6, g5, g6, rfl, rfl, hB.trans (hb1.mono (by omega)), fun _ => rfl, fun _ => rfl, h10, h11, fun h => ⟨(h5 h).1, (h5 h).2.1, (h5 h).2.2.ext hb1.toBelow⟩, fun h => ⟨(h6 h).1, (h6 h).2.1, (h6 h).2.2.ext hb1.toBelow⟩, hne, h64, h75⟩
    · obtain rfl := Option.some.inj hoi
      obtain rfl : l2 = false := hun
      refine wpOp_of rfl rfl fun K hK => ?_
      go_simp
      exact hK _ _ ⟨l0, l1, true, l3, l4, l5, l6, l7, v8, v9, _, v11, v5, v6, g5, g6, rfl, rfl, hB, h8, h9, fun _ => rfl, h11, h5, h6, hne, h64, h75⟩
    · obtain rfl := Option.some.inj hoi
      obtain rfl : l2 = true := hdeps { on := 2, ground := .data } (by simp) rfl
      obtain rfl : l3 = false := hun
      obtain rfl := h10 rfl
      refine wpOp_of rfl rfl fun K hK => ?_
      go_simp
      refine (words119g b hb _).mono ?_
      rintro e W' ⟨rfl, hb1⟩
      exact hK _ _ ⟨l0, l1, true, true, l4, l5, l6, l7, v8, v9, _, _, v5, v6, g5, g6, rfl, rfl, hB.trans (hb1.mono (by omega)), h8, h9, fun _ => rfl, fun _ => rfl, fun h => ⟨(h5 h).1, (h5 h).2.1, (h5 h).2.2.ext hb1.toBelow⟩, fun h => ⟨(h6 h).1, (h6 h).2.1, (h6 h).2.2.ext hb1.toBelow⟩, hne, h64, h75⟩
    · obtain rfl := Option.some.inj hoi
      obtain rfl : l4 = false := hun
      obtain rfl : l6 = false := by cases l6 with | false => rfl | true => exact absurd (h64 rfl) (by simp)
      refine wpOp_of rfl rfl fun K hK => ?_
      go_simp
      exact hK _ _ ⟨l0, l1, l2, l3, true, l5, false, l7, v8, v9, v10, v11, _, v6, W.heap.size, g6, rfl, rfl, hB.alloc (by omega) _, h8, h9, h10, h11, fun _ => ⟨rfl, by omega, Blk.new W 136 zW⟩, fun h => ⟨(h6 h).1, (h6 h).2.1, (h6 h).2.2.alloc _⟩, fun _ h => by have := (h6 h).2.2.lt; omega, fun _ => rfl, h75⟩
    · obtain rfl := Option.some.inj hoi
      obtain rfl : l5 = false := hun
      obtain rfl : l7 = false := by cases l7 with | false => rfl | true => exact absurd (h75 rfl) (by simp)
      refine wpOp_of rfl rfl fun K hK => ?_
      go_simp
      exact hK _ _ ⟨l0, l1, l2, l3, l4, true, l6, false, v8, v9, v10, v11, v5, _, g5, W.heap.size, rfl, rfl, hB.alloc (by omega) _, h8, h9, h10, h11, fun h => ⟨(h5 h).1, (h5 h).2.1, (h5 h).2.2.alloc _⟩, fun _ => ⟨rfl, by omega, Blk.new W 136 zW⟩, fun h _ => by have := (h5 h).2.2.lt; omega, h64, fun _ => rfl⟩
    · obtain rfl := Option.some.inj hoi
      obtain rfl : l4 = true := hdeps { on := 4, ground := .data } (by simp) rfl
      obtain rfl : l1 = true := hdeps { on := 1, ground := .data } (by simp) rfl
      obtain rfl : l6 = false := hun
      obtain rfl := h9 rfl
      obtain ⟨rfl, hg, hk⟩ := h5 rfl
      have c0 : W.cell? ⟨g5, 0, none⟩ = some (.int .u64 0) := hk.cell 0
      have f0 := hk.frozen 0
      have c1 : W.cell? ⟨g5, 1, none⟩ = some (.int .u64 0) := hk.cell 1
      have f1 := hk.frozen 1
      have c2 : W.cell? ⟨g5, 2, none⟩ = some (.int .u64 0) := hk.cell 2
      have f2 := hk.frozen 2
      refine wpOp_of rfl rfl fun K hK => ?_
      go_simp
      exact hK _ _ ⟨l0, true, l2, l3, true, l5, true, l7, v8, _, v10, v11, _, v6, g5, g6, rfl, rfl, ((hB.setCell (by simp; omega) _).setCell (by simp; omega) _).setCell (by simp; omega) _, h8, fun _ => rfl, h10, h11, fun _ => ⟨rfl, hg, ((hk.set_ 0 _).set_ 1 _).set_ 2 _⟩, fun h => ⟨(h6 h).1, (h6 h).2.1, (((h6 h).2.2.far (Ne.symm (hne rfl h)) _).far (Ne.symm (hne rfl h)) _).far (Ne.symm (hne rfl h)) _⟩, hne, fun _ => rfl, h75⟩
    · obtain rfl := Option.some.inj hoi
      obtain rfl : l5 = true := hdeps { on := 5, ground := .data } (by simp) rfl
      obtain rfl : l3 = true := hdeps { on := 3, ground := .data } (by simp) rfl
      obtain rfl : l7 = false := hun
      obtain rfl := h11 rfl
      obtain ⟨rfl, hg, hk⟩ := h6 rfl
      have c0 : W.cell? ⟨g6, 0, none⟩ = some (.int .u64 0) := hk.cell 0
      have f0 := hk.frozen 0
      have c1 : W.cell? ⟨g6, 1, none⟩ = some (.int .u64 0) := hk.cell 1
      have f1 := hk.frozen 1
      have c2 : W.cell? ⟨g6, 2, none⟩ = some (.int .u64 0) := hk.cell 2
      have f2 := hk.frozen 2
      refine wpOp_of rfl rfl fun K hK => ?_
      go_simp
      exact hK _ _ ⟨l0, l1, l2, true, l4, true, l6, true, v8, v9, v10, _, v5, _, g5, g6, rfl, rfl, ((hB.setCell (by simp; omega) _).setCell (by simp; omega) _).setCell (by simp; omega) _, h8, h9, h10, fun _ => rfl, fun h => ⟨(h5 h).1, (h5 h).2.1, (((h5 h).2.2.far (hne h rfl) _).far (hne h rfl) _).far (hne h rfl) _⟩, fun _ => ⟨rfl, hg, ((hk.set_ 0 _).set_ 1 _).set_ 2 _⟩, hne, h64, fun _ => rfl⟩

theorem order69g (a b : Am) (ha : Hid a.ok) (hb0 : Hid b.ok) (w : World) :
    Calls Try.prog 69 #[.agg (encA a), .agg (encA b)] w fun e w' => e = .returned (.int .i64 (kOrd a.k b.k)) ∧ Bel w.heap.size w w' := by
  by_cases h1 : a.k = b.k
  · have HV : Hid (kOrd a.k b.k = 0) := by show kOrd a.k b.k = 0; unfold kOrd; rw [if_pos h1]
    have he : ∀ W, (Op.equalIn 10000 63 (.agg #[.int .u8 a.k.sort, .int .u16 a.k.cart, .int .u8 a.k.item.c0, .int .u8 a.k.item.c1, .int .u8 a.k.item.c2, .int .u8 a.k.item.c3, .int .u8 a.k.item.c4, .int .u8 a.k.item.c5, .int .u8 a.k.item.c6, .int .u8 a.k.item.c7, .int .u8 a.k.rep, .int .u32 a.k.seq]) (.agg #[.int .u8 b.k.sort, .int .u16 b.k.cart, .int .u8 b.k.item.c0, .int .u8 b.k.item.c1, .int .u8 b.k.item.c2, .int .u8 b.k.item.c3, .int .u8 b.k.item.c4, .int .u8 b.k.item.c5, .int .u8 b.k.item.c6, .int .u8 b.k.item.c7, .int .u8 b.k.rep, .int .u32 b.k.seq])).run Try.prog W = .ok true W := fun W => (equalIn63 9997 a.k b.k W).trans (by rw [decide_eq_true h1])
    clear h1
    go_enter Try.func69, Try.ntmps69
    go_wp2
    go_ret
    exact ⟨by rw [HV.out]; rfl, ((Bel.refl _ _).alloc (Nat.le_refl _) _).alloc (by simp) _⟩
  · have he : ∀ W, (Op.equalIn 10000 63 (.agg #[.int .u8 a.k.sort, .int .u16 a.k.cart, .int .u8 a.k.item.c0, .int .u8 a.k.item.c1, .int .u8 a.k.item.c2, .int .u8 a.k.item.c3, .int .u8 a.k.item.c4, .int .u8 a.k.item.c5, .int .u8 a.k.item.c6, .int .u8 a.k.item.c7, .int .u8 a.k.rep, .int .u32 a.k.seq]) (.agg #[.int .u8 b.k.sort, .int .u16 b.k.cart, .int .u8 b.k.item.c0, .int .u8 b.k.item.c1, .int .u8 b.k.item.c2, .int .u8 b.k.item.c3, .int .u8 b.k.item.c4, .int .u8 b.k.item.c5, .int .u8 b.k.item.c6, .int .u8 b.k.item.c7, .int .u8 b.k.rep, .int .u32 b.k.seq])).run Try.prog W = .ok false W := fun W => (equalIn63 9997 a.k b.k W).trans (by rw [decide_eq_false h1])
    cases hl : kLess a.k b.k
    · have HV : Hid (kOrd a.k b.k = 1) := by show kOrd a.k b.k = 1; unfold kOrd; rw [if_neg h1, hl]; rfl
      have HL := Lib.hid hl
      clear h1 hl
      go_enter Try.func69, Try.ntmps69
      go_wp2_with fail
      refine (less96g a.k b.k ha.out.1 hb0.out.1 _).mono ?_
      rintro e w1 ⟨rfl, hb1⟩
      rw [HL.out]
      go_wp2
      go_ret
      exact ⟨by rw [HV.out]; rfl, (((Bel.refl _ _).alloc (Nat.le_refl _) _).alloc (by simp) _).trans (hb1.mono (by simp; omega))⟩
    · have HV : Hid (kOrd a.k b.k = -1) := by show kOrd a.k b.k = -1; unfold kOrd; rw [if_neg h1, hl]; rfl
      have HL := Lib.hid hl
      clear h1 hl
      go_enter Try.func69, Try.ntmps69
      go_wp2_with fail
      refine (less96g a.k b.k ha.out.1 hb0.out.1 _).mono ?_
      rintro e w1 ⟨rfl, hb1⟩
      rw [HL.out]
      go_wp2
      go_ret
      exact ⟨by rw [HV.out]; rfl, (((Bel.refl _ _).alloc (Nat.le_refl _) _).alloc (by simp) _).trans (hb1.mono (by simp; omega))⟩

end Go.Proofs.Ythnhlbikfidpnaa
