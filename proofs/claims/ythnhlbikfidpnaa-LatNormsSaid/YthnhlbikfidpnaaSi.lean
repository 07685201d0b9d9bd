/- lat.Find. -/
import Derived.Test.YthnhlbikfidpnaaSg
import Derived.Deep.RegionHeld3
namespace Go.Proofs.Ythnhlbikfidpnaa
open Go.RowKit
set_option maxHeartbeats 2000000
set_option maxRecDepth 100000
attribute [local go_sem ↓] exec_load63 exec_load65 exec_store65
theorem Find36 (l : List Am) (k : Ky) (v : Value) (w : World) (hv : Row encA 21 w v l) (hl : l.length ≤ 500000) (hok : AOk l) :
    Calls Try.prog 36 #[v, .agg (encK k)] w fun e w' => e = .returned (.tuple #[.agg (encV (lookV (lNorm l) k).1), .bool (lookV (lNorm l) k).2]) ∧ Below w.heap.size w w' := by
  have HOK := Lib.hid hok
  have HV := Lib.hid (((hv.alloc (.cells (encK k) 63)).alloc (.cells (encV vl0) 65)).drew)
  have HV2 := Lib.hid ((((hv.alloc (.cells (encK k) 63)).alloc (.cells (encV vl0) 65)).drew).alloc (.cells (encV vl0) 65))
  clear hv hok
  have hle9 : 0 + 9 ≤ (encV vl0).size := by decide
  go_enter Try.func36, Try.ntmps36
  go_wp2_with fail
  have hS0 : Below (w.heap.size + 2) ((w.alloc (.cells (encK k) 63)).alloc (.cells (encV vl0) 65)) ((w.alloc (.cells (encK k) 63)).alloc (.cells (encV vl0) 65)).drew := (Below.refl _ _).drew
  have hS1 : Below (w.heap.size + 2) ((w.alloc (.cells (encK k) 63)).alloc (.cells (encV vl0) 65)) (((w.alloc (.cells (encK k) 63)).alloc (.cells (encV vl0) 65)).drew.alloc (.cells (encV vl0) 65)) := hS0.alloc (by simp) _
  have hlk : ∀ W, Below (w.heap.size + 2) ((w.alloc (.cells (encK k) 63)).alloc (.cells (encV vl0) 65)) W → (ldOp 63 (.pointer (some ⟨w.heap.size, 0, none⟩))).run Try.prog W = .ok (.value (.agg (encK k))) W := fun W hW => ld63 _ _ 0 (encK k) rfl (fun j hj => by rw [Nat.zero_add]; exact (((Blk.new w 63 (encK k)).alloc _).below hW (by omega)).cell j)
  have hB20 : Blk (((w.alloc (.cells (encK k) 63)).alloc (.cells (encV vl0) 65)).drew.alloc (.cells (encV vl0) 65)) (w.heap.size + 1 + 1) 65 (encV vl0) := (by have := Blk.new ((w.alloc (.cells (encK k) 63)).alloc (.cells (encV vl0) 65)).drew 65 (encV vl0); rw [show ((w.alloc (.cells (encK k) 63)).alloc (.cells (encV vl0) 65)).drew.heap.size = w.heap.size + 1 + 1 from by simp] at this; exact this)
  have HB20 := Lib.hid hB20
  clear hB20
  go_region_held3 (fun w' => Below (w.heap.size + 2) ((w.alloc (.cells (encK k) 63)).alloc (.cells (encV vl0) 65)) w')
    (first | exact hS0 | exact hS1 | exact hS3 | exact hS3.alloc (by omega) _ | exact below_stW hS3 _ _ (by omega) _ | exact below_stW (hS3.alloc (by omega) _) _ _ (by simp; omega) _)
    (first
      | (go_at_call 67; refine (facts67 l _ _ HV.out hl HOK.out).mono ?_; rintro e w3 ⟨b, rfl, hM3, hbge, hb3⟩; have hS3 := keepC hS0 (by simp) hb3; have hz3 := hS3.size; simp at hz3; have hlk3 := run_lookup103 w3 b _ hM3 k; have hlk4 := fun cs => run_lookup103 (w3.alloc (.cells cs 65)) b _ (hM3.ext ((Below.refl _ _).alloc (Nat.le_refl _) _)) k; have hst4 := fun cs h0 => st65 w3 cs h0 (lookV (lNorm l) k).1)
      | (go_at_call 67; refine (facts67 l _ _ HV2.out hl HOK.out).mono ?_; rintro e w3 ⟨b, rfl, hM3, hbge, hb3⟩; have hS3 := keepC hS1 (by simp) hb3; have hz3 := hS3.size; simp at hz3; have hlk3 := run_lookup103 w3 b _ hM3 k; have hB3 := HB20.out.ext hb3; have hst3 := stB65 (off := 0) hB3 (lookV (lNorm l) k).1 hle9))
  · have hBv : Blk (w3.alloc (.cells (encV (lookV (lNorm l) k).1) 65)) (w.heap.size + 1) 65 (encV vl0) := ((blk2 w (.cells (encK k) 63) 65 (encV vl0)).below hS3 (by omega)).alloc _
    have hla : (ldOp 65 (.pointer (some ⟨w3.heap.size, 0, none⟩))).run Try.prog (w3.alloc (.cells (encV (lookV (lNorm l) k).1) 65)) = .ok (.value (.agg (encV (lookV (lNorm l) k).1))) (w3.alloc (.cells (encV (lookV (lNorm l) k).1) 65)) := ldB65 (Blk.new _ _ _) _ (fun j _ => by rw [Nat.zero_add])
    have hsta := stB65 (off := 0) hBv (lookV (lNorm l) k).1 hle9
    have hB5 := hBv.stW 0 (encV (lookV (lNorm l) k).1) _ (whole_ _ _ rfl)
    have hc5 := hB5.cell
    clear hBv
    go_wp2_with fail
    exact bodyPost_ret (v := .tuple #[.agg (encV (lookV (lNorm l) k).1), .bool (lookV (lNorm l) k).2]) (by simp [results, Try.results36, go_sem, hc5]) rfl ⟨rfl, below_stW ((((Below.refl _ _).alloc (Nat.le_refl _) _).alloc (by simp) _).trans ((hS3.alloc (by omega) _).mono (by omega))) _ _ (by omega) _⟩
  · have hBv : Blk (w3.alloc (.cells (encV (lookV (lNorm l) k).1) 65)) (w.heap.size + 1) 65 (encV vl0) := ((blk2 w (.cells (encK k) 63) 65 (encV vl0)).below hS3 (by omega)).alloc _
    have hla : (ldOp 65 (.pointer (some ⟨w3.heap.size, 0, none⟩))).run Try.prog (w3.alloc (.cells (encV (lookV (lNorm l) k).1) 65)) = .ok (.value (.agg (encV (lookV (lNorm l) k).1))) (w3.alloc (.cells (encV (lookV (lNorm l) k).1) 65)) := ldB65 (Blk.new _ _ _) _ (fun j _ => by rw [Nat.zero_add])
    have hsta := stB65 (off := 0) hBv (lookV (lNorm l) k).1 hle9
    have hB5 := hBv.stW 0 (encV (lookV (lNorm l) k).1) _ (whole_ _ _ rfl)
    have hc5 := hB5.cell
    clear hBv
    go_wp2_with fail
    exact bodyPost_ret (v := .tuple #[.agg (encV (lookV (lNorm l) k).1), .bool (lookV (lNorm l) k).2]) (by simp [results, Try.results36, go_sem, hc5]) rfl ⟨rfl, below_stW ((((Below.refl _ _).alloc (Nat.le_refl _) _).alloc (by simp) _).trans ((hS3.alloc (by omega) _).mono (by omega))) _ _ (by omega) _⟩
  · have hBv : Blk (stW w3 (w.heap.size + 1 + 1) 0 (encV (lookV (lNorm l) k).1)) (w.heap.size + 1) 65 (encV vl0) := ((blk2 w (.cells (encK k) 63) 65 (encV vl0)).below hS3 (by omega)).stW_far (by omega) _ _
    have hla : (ldOp 65 (.pointer (some ⟨w.heap.size + 1 + 1, 0, none⟩))).run Try.prog (stW w3 (w.heap.size + 1 + 1) 0 (encV (lookV (lNorm l) k).1)) = .ok (.value (.agg (encV (lookV (lNorm l) k).1))) (stW w3 (w.heap.size + 1 + 1) 0 (encV (lookV (lNorm l) k).1)) := ldB65 (hB3.stW 0 (encV (lookV (lNorm l) k).1) _ (whole_ _ _ rfl)) _ (fun j _ => by rw [Nat.zero_add])
    have hsta := stB65 (off := 0) hBv (lookV (lNorm l) k).1 hle9
    have hB5 := hBv.stW 0 (encV (lookV (lNorm l) k).1) _ (whole_ _ _ rfl)
    have hc5 := hB5.cell
    clear hBv
    go_wp2_with fail
    exact bodyPost_ret (v := .tuple #[.agg (encV (lookV (lNorm l) k).1), .bool (lookV (lNorm l) k).2]) (by simp [results, Try.results36, go_sem, hc5]) rfl ⟨rfl, below_stW ((((Below.refl _ _).alloc (Nat.le_refl _) _).alloc (by simp) _).trans ((below_stW hS3 _ _ (by omega) _).mono (by omega))) _ _ (by omega) _⟩
end Go.Proofs.Ythnhlbikfidpnaa
