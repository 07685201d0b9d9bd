/- lat.Norm, lat.Join, lat.Each. -/
import Derived.Test.YthnhlbikfidpnaaSd
namespace Go.Proofs.Ythnhlbikfidpnaa
open Go.RowKit
set_option maxHeartbeats 1000000
set_option maxRecDepth 100000
theorem lNorm_nil : lNorm [] = [] := by unfold lNorm; split <;> rfl
theorem lAll_one (l : List Am) : lAll [l] = lNorm l := by
  show lJoin [] l = _
  unfold lJoin
  rw [lNorm_nil, nil_merge]
theorem rows2_one {w : World} {v : Value} {l : List Am} (h : Row encA 21 w v l) (t : TypeId) : Rows2 (w.alloc (.cells #[v] t)) (.slice (some ⟨w.heap.size, 0, none⟩) 1 1) [l] := by
  refine ⟨_, 1, rfl, Nat.le_refl _, fun _ => ⟨w.heap.size, 0, rfl, by simp, fun i x hx => ?_⟩⟩
  have hB := Blk.new w t #[v]
  match i, hx with
  | 0, hx =>
    simp at hx; subst hx
    exact ⟨v, by rw [hB.cell]; rfl, h.alloc _⟩
  | i + 1, hx => simp at hx
theorem rows2_two {w : World} {v u : Value} {l m : List Am} (h : Row encA 21 w v l) (h' : Row encA 21 w u m) (t : TypeId) : Rows2 (w.alloc (.cells #[v, u] t)) (.slice (some ⟨w.heap.size, 0, none⟩) 2 2) [l, m] := by
  refine ⟨_, 2, rfl, Nat.le_refl _, fun _ => ⟨w.heap.size, 0, rfl, by simp, fun i x hx => ?_⟩⟩
  have hB := Blk.new w t #[v, u]
  match i, hx with
  | 0, hx =>
    simp at hx; subst hx
    exact ⟨v, by rw [hB.cell]; rfl, h.alloc _⟩
  | 1, hx =>
    simp at hx; subst hx
    exact ⟨u, by rw [hB.cell]; rfl, h'.alloc _⟩
  | i + 2, hx => simp at hx
theorem Norm40 (l : List Am) (v : Value) (w : World) (hv : Row encA 21 w v l) (hl : l.length ≤ 500000) (hok : AOk l) :
    Calls Try.prog 40 #[v] w fun e w' => ∃ r, e = .returned r ∧ NewRow w.heap.size w' r (lNorm l) ∧ Below w.heap.size w w' := by
  have HR := Lib.hid (rows2_one hv 54)
  have HOK : Hid (∀ x ∈ [l], AOk x) := fun x hx => by simp at hx; subst hx; exact hok
  obtain ⟨A, c, rfl, _⟩ := hv
  clear hok
  go_enter Try.func40, Try.ntmps40
  go_wp2_with (go_at_call 35; refine (All35 [l] _ _ HR.out (by simp) (by simpa [sumLen] using hl) HOK.out).mono ?_; rintro e w2 ⟨r, rfl, hR2, hb2⟩)
  go_ret
  exact ⟨_, rfl, by rw [← lAll_one]; exact hR2.mono (by simp), ((Below.refl _ _).alloc (Nat.le_refl _) _).trans (hb2.mono (by simp))⟩
theorem Join61 (l m : List Am) (v u : Value) (w : World) (hv : Row encA 21 w v l) (hu : Row encA 21 w u m) (hl : l.length + m.length ≤ 500000) (hok : AOk l) (hom : AOk m) :
    Calls Try.prog 61 #[v, u] w fun e w' => ∃ r, e = .returned r ∧ Row encA 21 w' r (lAll [l, m]) ∧ Below w.heap.size w w' := by
  have HR := Lib.hid (rows2_two hv hu 54)
  have HOK : Hid (∀ x ∈ [l, m], AOk x) := fun x hx => by
    simp at hx
    rcases hx with rfl | rfl
    · exact hok
    · exact hom
  obtain ⟨A, c, rfl, _⟩ := hv
  obtain ⟨B, d, rfl, _⟩ := hu
  clear hok hom
  go_enter Try.func61, Try.ntmps61
  go_wp2_with (go_at_call 35; refine (All35 [l, m] _ _ HR.out (by simp) (by simpa [sumLen] using hl) HOK.out).mono ?_; rintro e w2 ⟨r, rfl, hR2, hb2⟩)
  go_ret
  exact ⟨_, rfl, hR2.2, ((Below.refl _ _).alloc (Nat.le_refl _) _).trans (hb2.mono (by simp))⟩
theorem Each32 (A : Option Addr) (n c : Nat) (w : World) :
    Calls Try.prog 32 #[.slice A n c] w fun e w' => e = .returned (.func (.func 63) #[] #[.pointer (some ⟨w.heap.size, 0, none⟩)]) ∧ w' = w.alloc (.cells #[.slice A n c] 54) := by
  go_enter Try.func32, Try.ntmps32
  go_wp2_with fail
  go_ret
  exact ⟨rfl, rfl⟩
end Go.Proofs.Ythnhlbikfidpnaa
