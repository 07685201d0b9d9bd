/- The document's Find. -/
import Derived.Test.YthnhlbikfidpnaaR
import Derived.Deep.RegionHeld3
namespace Go.Proofs.Ythnhlbikfidpnaa
open Go.RowKit
set_option maxHeartbeats 1000000
set_option maxRecDepth 100000
attribute [local go_sem ↓] exec_load63 exec_load65 exec_store65
theorem blk2 (w : World) (o : Obj) (t : TypeId) (cs : Array Value) : Blk ((w.alloc o).alloc (.cells cs t)) (w.heap.size + 1) t cs := by
  have := Blk.new (w.alloc o) t cs
  rwa [World.size_alloc] at this
theorem Find37 (l : List Am) (k : Ky) (v : Value) (w : World) (hv : Row encA 21 w v l) (hl : l.length ≤ 1000000) (hok : Oks l) :
    Calls Try.prog 37 #[v, .agg (encK k)] w fun e w' => e = .returned (.tuple #[.agg (encV (lookV (lNorm l) k).1), .bool (lookV (lNorm l) k).2]) ∧ Below w.heap.size w w' := by
  have HOK := Lib.hid hok
  have HV := Lib.hid (((hv.alloc (.cells (encK k) 63)).alloc (.cells (encV vl0) 65)).drew)
  clear hv hok
  have hnl : (lNorm l).length ≤ 1000000 := Nat.le_trans (lNorm_len l) hl
  have hle9 : 0 + 9 ≤ (encV vl0).size := by decide
  go_enter Try.func37, Try.ntmps37
  go_wp2_with fail
  have hS0 : Below (w.heap.size + 2) ((w.alloc (.cells (encK k) 63)).alloc (.cells (encV vl0) 65)) ((w.alloc (.cells (encK k) 63)).alloc (.cells (encV vl0) 65)).drew := (Below.refl _ _).drew
  have hlk : ∀ W, Below (w.heap.size + 1) ((w.alloc (.cells (encK k) 63)).alloc (.cells (encV vl0) 65)) W → (ldOp 63 (.pointer (some ⟨w.heap.size, 0, none⟩))).run Try.prog W = .ok (.value (.agg (encK k))) W := fun W hW => ld63 _ _ 0 (encK k) rfl (fun j hj => by rw [Nat.zero_add]; exact (((Blk.new w 63 (encK k)).alloc _).below hW (by omega)).cell j)
  have hT0 := hS0.mono (show w.heap.size + 1 ≤ w.heap.size + 2 by omega)
  go_region_held3 (fun w' => Below (w.heap.size + 1) ((w.alloc (.cells (encK k) 63)).alloc (.cells (encV vl0) 65)) w')
    (first | exact hT0 | exact hT3 | exact hT4 | exact below_stW hT4 _ _ (by omega) _)
    (first
      | (go_at_call 41; refine (norm41 l _ _ HV.out hl HOK.out).mono ?_; rintro e w3 ⟨u, rfl, hR3, hb3⟩; have hS3 := keepC hS0 (by simp) hb3; have hT3 := hS3.mono (show w.heap.size + 1 ≤ w.heap.size + 2 by omega))
      | (go_at_call 68; refine (find68 (lNorm l) k _ _ hR3 hnl).mono ?_; rintro e w4 ⟨rfl, hb4⟩; have hS4 := keepC hS3 (by simp) hb4; have hT4 := hS4.mono (show w.heap.size + 1 ≤ w.heap.size + 2 by omega); have hB4 := (blk2 w (.cells (encK k) 63) 65 (encV vl0)).below hS4 (by omega); have hst4 := stB65 (off := 0) hB4 (lookV (lNorm l) k).1 hle9))
  have hB5 := hB4.stW 0 (encV (lookV (lNorm l) k).1) _ (whole_ _ _ rfl)
  have hc5 := hB5.cell
  go_wp2_with fail
  exact bodyPost_ret (v := .tuple #[.agg (encV (lookV (lNorm l) k).1), .bool (lookV (lNorm l) k).2]) (by simp [results, Try.results37, go_sem, hc5]) rfl ⟨rfl, below_stW ((((Below.refl _ _).alloc (Nat.le_refl _) _).alloc (by simp) _).trans (hS4.mono (by omega))) _ _ (by omega) _⟩
end Go.Proofs.Ythnhlbikfidpnaa
