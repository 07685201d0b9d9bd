/- The chapter's example of layer 10. -/
import Derived.Test.YthnhlbikfidpnaaSj
import Derived.Deep.RegionHeld3
namespace Go.Proofs.Ythnhlbikfidpnaa
open Go.RowKit
set_option maxHeartbeats 2000000
set_option maxRecDepth 100000
attribute [local go_sem ↓] exec_load63
abbrev ek : Ky := ⟨1, 1, ⟨97, 0, 0, 0, 0, 0, 0, 0⟩, 2, 3⟩
abbrev ea : Am := ⟨ek, ⟨1, nm0⟩⟩
abbrev eb : Am := ⟨ek, ⟨2, nm0⟩⟩
theorem row_one {W : World} {g : Nat} {x : Am} (h : Blk W g 67 (encA x)) : Row encA 21 W (.slice (some ⟨g, 0, none⟩) 1 1) [x] := by
  refine ⟨_, 1, rfl, Nat.le_refl _, fun _ => ⟨g, 0, rfl, h.lt, fun i y hy j hj => ?_⟩⟩
  match i, hy with
  | 0, hy =>
    simp at hy; subst hy
    rw [h.cell]
    simp
  | i + 1, hy => simp at hy
theorem ea_ok : ea.ok := by refine ⟨⟨?_, ?_, ?_, ?_, ?_⟩, ?_, ?_⟩ <;> simp [Nm.ok]
theorem eb_ok : eb.ok := by refine ⟨⟨?_, ?_, ?_, ?_, ?_⟩, ?_, ?_⟩ <;> simp [Nm.ok]
theorem aok_one {x : Am} (h : x.ok) : AOk [x] := fun a ha => by simp at ha; subst ha; exact h
theorem ea_right : lRight [ea] = true := by decide +kernel
theorem eb_right : lRight [eb] = true := by decide +kernel
theorem lNorm_of_right {l : List Am} (h : lRight l = true) : lNorm l = l := by unfold lNorm; rw [if_pos h]
theorem ex_ir : kLess ek ek = false := kLess_irr _
theorem ex_more : vMore ⟨1, nm0⟩ ⟨2, nm0⟩ = ⟨2, nm0⟩ := by decide +kernel
theorem ex_over : vOver ⟨1, nm0⟩ ⟨2, nm0⟩ = false := by decide +kernel
theorem ex_join : lAll [[ea], [eb]] = [eb] := by
  show lJoin (lJoin [] [ea]) [eb] = _
  have h1 : lJoin [] [ea] = [ea] := by
    show merge (lNorm []) (lNorm [ea]) = _
    rw [lNorm_nil, nil_merge, lNorm_of_right ea_right]
  rw [h1]
  show merge (lNorm [ea]) (lNorm [eb]) = _
  rw [lNorm_of_right ea_right, lNorm_of_right eb_right, merge_eq ex_ir ex_ir, merge_nil, ex_more]
theorem ex_meet {ys : List OkA} {l' : List Am} (h : ys.map (·.1) = lNorm [ea]) (hp : l'.Perm (tM (lNorm [eb]) ys)) : l' = [ea] := by
  rw [lNorm_of_right ea_right] at h
  obtain ⟨y, rfl, hy⟩ : ∃ y : OkA, ys = [y] ∧ y.1 = ea := by
    cases ys with
    | nil => cases h
    | cons y t =>
      cases t with
      | nil => exact ⟨y, rfl, (List.cons.inj h).1⟩
      | cons z t => cases (List.cons.inj h).2
  have e : tM (lNorm [eb]) [y] = [ea] := by
    rw [lNorm_of_right eb_right]
    show tStep [eb] [] y = _
    unfold tStep
    rw [hy, look_cons_eq (a := eb) rfl]
    show mSet [] ek (if vOver ⟨1, nm0⟩ ⟨2, nm0⟩ = true then ⟨2, nm0⟩ else ⟨1, nm0⟩) = _
    rw [ex_over]
    rfl
  rw [e] at hp
  exact List.perm_singleton.1 hp
theorem alive30 (w : World) : Calls Try.prog 30 #[] w fun e w' => e = .returned (.bool true) ∧ Below w.heap.size w w' := by
  have hS0 : Below (w.heap.size + 1) (w.alloc (.cells #[.int .u8 1, .int .u16 1, .int .u8 97, .int .u8 0, .int .u8 0, .int .u8 0, .int .u8 0, .int .u8 0, .int .u8 0, .int .u8 0, .int .u8 2, .int .u32 3] 63)) (w.alloc (.cells #[.int .u8 1, .int .u16 1, .int .u8 97, .int .u8 0, .int .u8 0, .int .u8 0, .int .u8 0, .int .u8 0, .int .u8 0, .int .u8 0, .int .u8 2, .int .u32 3] 63)).drew := (Below.refl _ _).drew
  have hlk : ∀ W, Below (w.heap.size + 1) (w.alloc (.cells #[.int .u8 1, .int .u16 1, .int .u8 97, .int .u8 0, .int .u8 0, .int .u8 0, .int .u8 0, .int .u8 0, .int .u8 0, .int .u8 0, .int .u8 2, .int .u32 3] 63)) W → (ldOp 63 (.pointer (some ⟨w.heap.size, 0, none⟩))).run Try.prog W = .ok (.value (.agg #[.int .u8 1, .int .u16 1, .int .u8 97, .int .u8 0, .int .u8 0, .int .u8 0, .int .u8 0, .int .u8 0, .int .u8 0, .int .u8 0, .int .u8 2, .int .u32 3])) W := fun W hW => ld63 W _ 0 #[.int .u8 1, .int .u16 1, .int .u8 97, .int .u8 0, .int .u8 0, .int .u8 0, .int .u8 0, .int .u8 0, .int .u8 0, .int .u8 0, .int .u8 2, .int .u32 3] rfl (fun j _ => by rw [Nat.zero_add]; exact ((Blk.new w 63 #[.int .u8 1, .int .u16 1, .int .u8 97, .int .u8 0, .int .u8 0, .int .u8 0, .int .u8 0, .int .u8 0, .int .u8 0, .int .u8 0, .int .u8 2, .int .u32 3]).below hW (by omega)).cell j)
  go_enter Try.func30, Try.ntmps30
  go_wp2_with fail
  go_region_held3 (fun w' => Below (w.heap.size + 1) (w.alloc (.cells #[.int .u8 1, .int .u16 1, .int .u8 97, .int .u8 0, .int .u8 0, .int .u8 0, .int .u8 0, .int .u8 0, .int .u8 0, .int .u8 0, .int .u8 2, .int .u32 3] 63)) w')
    (first | exact hS0 | exact hS0.alloc (by simp) _ | exact (hS0.alloc (by simp) _).alloc (by simp) _) (fail)
  · have h1 : Blk ((((w.alloc (.cells #[.int .u8 1, .int .u16 1, .int .u8 97, .int .u8 0, .int .u8 0, .int .u8 0, .int .u8 0, .int .u8 0, .int .u8 0, .int .u8 0, .int .u8 2, .int .u32 3] 63)).alloc (.cells #[.int .u8 1, .int .u16 1, .int .u8 97, .int .u8 0, .int .u8 0, .int .u8 0, .int .u8 0, .int .u8 0, .int .u8 0, .int .u8 0, .int .u8 2, .int .u32 3, .int .u64 1, .int .u8 0, .int .u8 0, .int .u8 0, .int .u8 0, .int .u8 0, .int .u8 0, .int .u8 0, .int .u8 0] 67)).alloc (.cells #[.int .u8 1, .int .u16 1, .int .u8 97, .int .u8 0, .int .u8 0, .int .u8 0, .int .u8 0, .int .u8 0, .int .u8 0, .int .u8 0, .int .u8 2, .int .u32 3, .int .u64 2, .int .u8 0, .int .u8 0, .int .u8 0, .int .u8 0, .int .u8 0, .int .u8 0, .int .u8 0, .int .u8 0] 67)).drew) (w.heap.size + 1) 67 (encA ea) := (blk2 w (.cells #[.int .u8 1, .int .u16 1, .int .u8 97, .int .u8 0, .int .u8 0, .int .u8 0, .int .u8 0, .int .u8 0, .int .u8 0, .int .u8 0, .int .u8 2, .int .u32 3] 63) 67 (encA ea)).alloc (.cells #[.int .u8 1, .int .u16 1, .int .u8 97, .int .u8 0, .int .u8 0, .int .u8 0, .int .u8 0, .int .u8 0, .int .u8 0, .int .u8 0, .int .u8 2, .int .u32 3, .int .u64 2, .int .u8 0, .int .u8 0, .int .u8 0, .int .u8 0, .int .u8 0, .int .u8 0, .int .u8 0, .int .u8 0] 67)
    have h2 : Blk ((((w.alloc (.cells #[.int .u8 1, .int .u16 1, .int .u8 97, .int .u8 0, .int .u8 0, .int .u8 0, .int .u8 0, .int .u8 0, .int .u8 0, .int .u8 0, .int .u8 2, .int .u32 3] 63)).alloc (.cells #[.int .u8 1, .int .u16 1, .int .u8 97, .int .u8 0, .int .u8 0, .int .u8 0, .int .u8 0, .int .u8 0, .int .u8 0, .int .u8 0, .int .u8 2, .int .u32 3, .int .u64 1, .int .u8 0, .int .u8 0, .int .u8 0, .int .u8 0, .int .u8 0, .int .u8 0, .int .u8 0, .int .u8 0] 67)).alloc (.cells #[.int .u8 1, .int .u16 1, .int .u8 97, .int .u8 0, .int .u8 0, .int .u8 0, .int .u8 0, .int .u8 0, .int .u8 0, .int .u8 0, .int .u8 2, .int .u32 3, .int .u64 2, .int .u8 0, .int .u8 0, .int .u8 0, .int .u8 0, .int .u8 0, .int .u8 0, .int .u8 0, .int .u8 0] 67)).drew) (w.heap.size + 1 + 1) 67 (encA eb) := by
      have := Blk.new ((w.alloc (.cells #[.int .u8 1, .int .u16 1, .int .u8 97, .int .u8 0, .int .u8 0, .int .u8 0, .int .u8 0, .int .u8 0, .int .u8 0, .int .u8 0, .int .u8 2, .int .u32 3] 63)).alloc (.cells #[.int .u8 1, .int .u16 1, .int .u8 97, .int .u8 0, .int .u8 0, .int .u8 0, .int .u8 0, .int .u8 0, .int .u8 0, .int .u8 0, .int .u8 2, .int .u32 3, .int .u64 1, .int .u8 0, .int .u8 0, .int .u8 0, .int .u8 0, .int .u8 0, .int .u8 0, .int .u8 0, .int .u8 0] 67)) 67 (encA eb)
      rw [World.size_alloc, World.size_alloc] at this
      exact this
    have hbl : Below w.heap.size w ((((w.alloc (.cells #[.int .u8 1, .int .u16 1, .int .u8 97, .int .u8 0, .int .u8 0, .int .u8 0, .int .u8 0, .int .u8 0, .int .u8 0, .int .u8 0, .int .u8 2, .int .u32 3] 63)).alloc (.cells #[.int .u8 1, .int .u16 1, .int .u8 97, .int .u8 0, .int .u8 0, .int .u8 0, .int .u8 0, .int .u8 0, .int .u8 0, .int .u8 0, .int .u8 2, .int .u32 3, .int .u64 1, .int .u8 0, .int .u8 0, .int .u8 0, .int .u8 0, .int .u8 0, .int .u8 0, .int .u8 0, .int .u8 0] 67)).alloc (.cells #[.int .u8 1, .int .u16 1, .int .u8 97, .int .u8 0, .int .u8 0, .int .u8 0, .int .u8 0, .int .u8 0, .int .u8 0, .int .u8 0, .int .u8 2, .int .u32 3, .int .u64 2, .int .u8 0, .int .u8 0, .int .u8 0, .int .u8 0, .int .u8 0, .int .u8 0, .int .u8 0, .int .u8 0] 67)).drew) := ((((Below.refl _ _).alloc (Nat.le_refl _) _).alloc (by simp) _).alloc (by simp only [World.size_alloc]; omega) _).drew
    generalize ((((w.alloc (.cells #[.int .u8 1, .int .u16 1, .int .u8 97, .int .u8 0, .int .u8 0, .int .u8 0, .int .u8 0, .int .u8 0, .int .u8 0, .int .u8 0, .int .u8 2, .int .u32 3] 63)).alloc (.cells #[.int .u8 1, .int .u16 1, .int .u8 97, .int .u8 0, .int .u8 0, .int .u8 0, .int .u8 0, .int .u8 0, .int .u8 0, .int .u8 0, .int .u8 2, .int .u32 3, .int .u64 1, .int .u8 0, .int .u8 0, .int .u8 0, .int .u8 0, .int .u8 0, .int .u8 0, .int .u8 0, .int .u8 0] 67)).alloc (.cells #[.int .u8 1, .int .u16 1, .int .u8 97, .int .u8 0, .int .u8 0, .int .u8 0, .int .u8 0, .int .u8 0, .int .u8 0, .int .u8 0, .int .u8 2, .int .u32 3, .int .u64 2, .int .u8 0, .int .u8 0, .int .u8 0, .int .u8 0, .int .u8 0, .int .u8 0, .int .u8 0, .int .u8 0] 67)).drew) = W at *
    have HA := Lib.hid (row_one h1)
    have HB := Lib.hid (row_one h2)
    clear h1 h2 hS0 hlk
    go_wp2_with fail
    refine (Join61 [ea] [eb] _ _ _ HA.out HB.out (by decide) (aok_one ea_ok) (aok_one eb_ok)).mono ?_
    rintro e w2 ⟨r, rfl, hR2, hb2⟩
    have HA2 := Lib.hid (HA.out.ext hb2)
    have HB2 := Lib.hid (HB.out.ext hb2)
    rw [ex_join] at hR2
    go_wp2_with fail
    refine (rows34 [eb] [eb] _ _ _ hR2 HB2.out (by decide) (by decide)).mono ?_
    rintro e w3 ⟨rfl, hb3⟩
    rw [decide_eq_true rfl]
    have HA3 := Lib.hid (HA2.out.ext hb3)
    have HB3 := Lib.hid (HB2.out.ext hb3)
    go_wp2_with fail
    refine (Meet62 [ea] [eb] _ _ _ HA3.out HB3.out (by decide) (by decide) (aok_one ea_ok) (aok_one eb_ok)).mono ?_
    rintro e w4 ⟨r', l', ys, rfl, hR4, hys, hp, hb4⟩
    obtain rfl := ex_meet hys hp
    have HA4 := Lib.hid (HA3.out.ext hb4)
    go_wp2_with fail
    refine (rows34 [ea] [ea] _ _ _ hR4 HA4.out (by decide) (by decide)).mono ?_
    rintro e w5 ⟨rfl, hb5⟩
    rw [decide_eq_true rfl]
    have HA5 := Lib.hid (HA4.out.ext hb5)
    go_wp2_with fail
    refine (right38 [ea] _ _ HA5.out (by decide) (aok_oks (aok_one ea_ok))).mono ?_
    rintro e w6 ⟨rfl, hb6⟩
    rw [ea_right]
    have hb := (((hb2.trans (hb3.mono hb2.size)).trans (hb4.mono (hb2.trans (hb3.mono hb2.size)).size)))
    have hb' := hb.trans (hb5.mono hb.size)
    have hb'' := hb'.trans (hb6.mono hb'.size)
    go_wp2_with fail
    go_ret
    exact ⟨rfl, hbl.trans (hb''.mono hbl.size)⟩
  · have h1 : Blk ((((w.alloc (.cells #[.int .u8 1, .int .u16 1, .int .u8 97, .int .u8 0, .int .u8 0, .int .u8 0, .int .u8 0, .int .u8 0, .int .u8 0, .int .u8 0, .int .u8 2, .int .u32 3] 63)).alloc (.cells #[.int .u8 1, .int .u16 1, .int .u8 97, .int .u8 0, .int .u8 0, .int .u8 0, .int .u8 0, .int .u8 0, .int .u8 0, .int .u8 0, .int .u8 2, .int .u32 3, .int .u64 2, .int .u8 0, .int .u8 0, .int .u8 0, .int .u8 0, .int .u8 0, .int .u8 0, .int .u8 0, .int .u8 0] 67)).alloc (.cells #[.int .u8 1, .int .u16 1, .int .u8 97, .int .u8 0, .int .u8 0, .int .u8 0, .int .u8 0, .int .u8 0, .int .u8 0, .int .u8 0, .int .u8 2, .int .u32 3, .int .u64 1, .int .u8 0, .int .u8 0, .int .u8 0, .int .u8 0, .int .u8 0, .int .u8 0, .int .u8 0, .int .u8 0] 67)).drew) (w.heap.size + 1) 67 (encA eb) := (blk2 w (.cells #[.int .u8 1, .int .u16 1, .int .u8 97, .int .u8 0, .int .u8 0, .int .u8 0, .int .u8 0, .int .u8 0, .int .u8 0, .int .u8 0, .int .u8 2, .int .u32 3] 63) 67 (encA eb)).alloc (.cells #[.int .u8 1, .int .u16 1, .int .u8 97, .int .u8 0, .int .u8 0, .int .u8 0, .int .u8 0, .int .u8 0, .int .u8 0, .int .u8 0, .int .u8 2, .int .u32 3, .int .u64 1, .int .u8 0, .int .u8 0, .int .u8 0, .int .u8 0, .int .u8 0, .int .u8 0, .int .u8 0, .int .u8 0] 67)
    have h2 : Blk ((((w.alloc (.cells #[.int .u8 1, .int .u16 1, .int .u8 97, .int .u8 0, .int .u8 0, .int .u8 0, .int .u8 0, .int .u8 0, .int .u8 0, .int .u8 0, .int .u8 2, .int .u32 3] 63)).alloc (.cells #[.int .u8 1, .int .u16 1, .int .u8 97, .int .u8 0, .int .u8 0, .int .u8 0, .int .u8 0, .int .u8 0, .int .u8 0, .int .u8 0, .int .u8 2, .int .u32 3, .int .u64 2, .int .u8 0, .int .u8 0, .int .u8 0, .int .u8 0, .int .u8 0, .int .u8 0, .int .u8 0, .int .u8 0] 67)).alloc (.cells #[.int .u8 1, .int .u16 1, .int .u8 97, .int .u8 0, .int .u8 0, .int .u8 0, .int .u8 0, .int .u8 0, .int .u8 0, .int .u8 0, .int .u8 2, .int .u32 3, .int .u64 1, .int .u8 0, .int .u8 0, .int .u8 0, .int .u8 0, .int .u8 0, .int .u8 0, .int .u8 0, .int .u8 0] 67)).drew) (w.heap.size + 1 + 1) 67 (encA ea) := by
      have := Blk.new ((w.alloc (.cells #[.int .u8 1, .int .u16 1, .int .u8 97, .int .u8 0, .int .u8 0, .int .u8 0, .int .u8 0, .int .u8 0, .int .u8 0, .int .u8 0, .int .u8 2, .int .u32 3] 63)).alloc (.cells #[.int .u8 1, .int .u16 1, .int .u8 97, .int .u8 0, .int .u8 0, .int .u8 0, .int .u8 0, .int .u8 0, .int .u8 0, .int .u8 0, .int .u8 2, .int .u32 3, .int .u64 2, .int .u8 0, .int .u8 0, .int .u8 0, .int .u8 0, .int .u8 0, .int .u8 0, .int .u8 0, .int .u8 0] 67)) 67 (encA ea)
      rw [World.size_alloc, World.size_alloc] at this
      exact this
    have hbl : Below w.heap.size w ((((w.alloc (.cells #[.int .u8 1, .int .u16 1, .int .u8 97, .int .u8 0, .int .u8 0, .int .u8 0, .int .u8 0, .int .u8 0, .int .u8 0, .int .u8 0, .int .u8 2, .int .u32 3] 63)).alloc (.cells #[.int .u8 1, .int .u16 1, .int .u8 97, .int .u8 0, .int .u8 0, .int .u8 0, .int .u8 0, .int .u8 0, .int .u8 0, .int .u8 0, .int .u8 2, .int .u32 3, .int .u64 2, .int .u8 0, .int .u8 0, .int .u8 0, .int .u8 0, .int .u8 0, .int .u8 0, .int .u8 0, .int .u8 0] 67)).alloc (.cells #[.int .u8 1, .int .u16 1, .int .u8 97, .int .u8 0, .int .u8 0, .int .u8 0, .int .u8 0, .int .u8 0, .int .u8 0, .int .u8 0, .int .u8 2, .int .u32 3, .int .u64 1, .int .u8 0, .int .u8 0, .int .u8 0, .int .u8 0, .int .u8 0, .int .u8 0, .int .u8 0, .int .u8 0] 67)).drew) := ((((Below.refl _ _).alloc (Nat.le_refl _) _).alloc (by simp) _).alloc (by simp only [World.size_alloc]; omega) _).drew
    generalize ((((w.alloc (.cells #[.int .u8 1, .int .u16 1, .int .u8 97, .int .u8 0, .int .u8 0, .int .u8 0, .int .u8 0, .int .u8 0, .int .u8 0, .int .u8 0, .int .u8 2, .int .u32 3] 63)).alloc (.cells #[.int .u8 1, .int .u16 1, .int .u8 97, .int .u8 0, .int .u8 0, .int .u8 0, .int .u8 0, .int .u8 0, .int .u8 0, .int .u8 0, .int .u8 2, .int .u32 3, .int .u64 2, .int .u8 0, .int .u8 0, .int .u8 0, .int .u8 0, .int .u8 0, .int .u8 0, .int .u8 0, .int .u8 0] 67)).alloc (.cells #[.int .u8 1, .int .u16 1, .int .u8 97, .int .u8 0, .int .u8 0, .int .u8 0, .int .u8 0, .int .u8 0, .int .u8 0, .int .u8 0, .int .u8 2, .int .u32 3, .int .u64 1, .int .u8 0, .int .u8 0, .int .u8 0, .int .u8 0, .int .u8 0, .int .u8 0, .int .u8 0, .int .u8 0] 67)).drew) = W at *
    have HA := Lib.hid (row_one h2)
    have HB := Lib.hid (row_one h1)
    clear h1 h2 hS0 hlk
    go_wp2_with fail
    refine (Join61 [ea] [eb] _ _ _ HA.out HB.out (by decide) (aok_one ea_ok) (aok_one eb_ok)).mono ?_
    rintro e w2 ⟨r, rfl, hR2, hb2⟩
    have HA2 := Lib.hid (HA.out.ext hb2)
    have HB2 := Lib.hid (HB.out.ext hb2)
    rw [ex_join] at hR2
    go_wp2_with fail
    refine (rows34 [eb] [eb] _ _ _ hR2 HB2.out (by decide) (by decide)).mono ?_
    rintro e w3 ⟨rfl, hb3⟩
    rw [decide_eq_true rfl]
    have HA3 := Lib.hid (HA2.out.ext hb3)
    have HB3 := Lib.hid (HB2.out.ext hb3)
    go_wp2_with fail
    refine (Meet62 [ea] [eb] _ _ _ HA3.out HB3.out (by decide) (by decide) (aok_one ea_ok) (aok_one eb_ok)).mono ?_
    rintro e w4 ⟨r', l', ys, rfl, hR4, hys, hp, hb4⟩
    obtain rfl := ex_meet hys hp
    have HA4 := Lib.hid (HA3.out.ext hb4)
    go_wp2_with fail
    refine (rows34 [ea] [ea] _ _ _ hR4 HA4.out (by decide) (by decide)).mono ?_
    rintro e w5 ⟨rfl, hb5⟩
    rw [decide_eq_true rfl]
    have HA5 := Lib.hid (HA4.out.ext hb5)
    go_wp2_with fail
    refine (right38 [ea] _ _ HA5.out (by decide) (aok_oks (aok_one ea_ok))).mono ?_
    rintro e w6 ⟨rfl, hb6⟩
    rw [ea_right]
    have hb := (((hb2.trans (hb3.mono hb2.size)).trans (hb4.mono (hb2.trans (hb3.mono hb2.size)).size)))
    have hb' := hb.trans (hb5.mono hb.size)
    have hb'' := hb'.trans (hb6.mono hb'.size)
    go_wp2_with fail
    go_ret
    exact ⟨rfl, hbl.trans (hb''.mono hbl.size)⟩
end Go.Proofs.Ythnhlbikfidpnaa
