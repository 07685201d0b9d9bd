/- The law LatNorms, walked. -/
import Derived.Test.YthnhlbikfidpnaaSk
namespace Go.Proofs.Ythnhlbikfidpnaa
open Go.RowKit
set_option maxHeartbeats 2000000
set_option maxRecDepth 100000
attribute [local go_sem ↓] exec_load65 exec_load63 exec_store65
theorem LatNorms7 (l : List Am) (k : Ky) (v : Value) (w : World) (hv : Row encA 21 w v l) (hok : AOk l) (hm : l.length ≤ 9223372036854775807) :
    Calls Try.prog 7 #[v, .agg (encK k)] w fun e w' => e = .returned (.bool true) ∧ Below w.heap.size w w' := by
  have HOK := Lib.hid hok
  have HV := Lib.hid (hv.alloc (.cells (encK k) 63))
  obtain ⟨A, c, rfl, hlc, _⟩ := hv
  clear hok
  by_cases h60 : l.length ≤ 60
  · have hk1 : (ldOp 63 (.pointer (some ⟨w.heap.size, 0, none⟩))).run Try.prog (w.alloc (.cells (encK k) 63)) = .ok (.value (.agg (encK k))) (w.alloc (.cells (encK k) 63)) := ldB63 (Blk.new _ _ _) k (fun j _ => by rw [Nat.zero_add])
    go_enter Try.func7, Try.ntmps7
    go_wp2_with fail
    refine (Find36 l k _ _ HV.out (by omega) HOK.out).mono ?_
    rintro e w2 ⟨rfl, hb2⟩
    have hst2 : ∀ cs : Array Value, cs.size = 9 → (stOp 65 (.pointer (some ⟨w2.heap.size, 0, none⟩)) (.agg (encV (lookV (lNorm l) k).1))).run Try.prog (w2.alloc (.cells cs 65)) = .ok .skip (w2.alloc (.cells (encV (lookV (lNorm l) k).1) 65)) := fun cs h0 => st65 w2 cs h0 _
    have hB2 : Blk (w2.alloc (.cells (encV (lookV (lNorm l) k).1) 65)) w.heap.size 63 (encK k) := ((Blk.new w 63 (encK k)).ext hb2).alloc _
    have hk2 := ldB63 (off := 0) hB2 k (fun j _ => by rw [Nat.zero_add])
    have HV2 := Lib.hid ((HV.out.ext hb2).alloc (.cells (encV (lookV (lNorm l) k).1) 65))
    clear hB2
    go_wp2_with fail
    refine (Find37 l k _ _ HV2.out (by omega) (aok_oks HOK.out)).mono ?_
    rintro e w3 ⟨rfl, hb3⟩
    have hst3 : ∀ cs : Array Value, cs.size = 9 → (stOp 65 (.pointer (some ⟨w3.heap.size, 0, none⟩)) (.agg (encV (lookV (lNorm l) k).1))).run Try.prog (w3.alloc (.cells cs 65)) = .ok .skip (w3.alloc (.cells (encV (lookV (lNorm l) k).1) 65)) := fun cs h0 => st65 w3 cs h0 _
    have HV3 := Lib.hid ((HV2.out.ext hb3).alloc (.cells (encV (lookV (lNorm l) k).1) 65))
    have HB3 : Hid (Blk (w3.alloc (.cells (encV (lookV (lNorm l) k).1) 65)) w2.heap.size 65 (encV (lookV (lNorm l) k).1)) := ((Blk.new w2 65 (encV (lookV (lNorm l) k).1)).ext hb3).alloc _
    have HC3 : Hid (Blk (w3.alloc (.cells (encV (lookV (lNorm l) k).1) 65)) w3.heap.size 65 (encV (lookV (lNorm l) k).1)) := Blk.new w3 65 (encV (lookV (lNorm l) k).1)
    have hbw3 : Below w.heap.size w (w3.alloc (.cells (encV (lookV (lNorm l) k).1) 65)) := by
      have h1 : Below w.heap.size w w2 := ((Below.refl _ w).alloc (Nat.le_refl _) _).trans (hb2.mono (by simp))
      have h2 : Below w.heap.size w w3 := (h1.alloc h1.size _).trans (hb3.mono (by have := h1.size; simp; omega))
      exact h2.alloc h2.size _
    go_wp2_with fail
    refine (right38 l _ _ HV3.out (by omega) (aok_oks HOK.out)).mono ?_
    rintro e w4 ⟨rfl, hb4⟩
    have HV4 := Lib.hid (HV3.out.ext hb4)
    go_wp2_with fail
    refine (right39 l _ _ HV4.out (by omega) (aok_oks HOK.out)).mono ?_
    rintro e w5 ⟨rfl, hb5⟩
    have HV5 := Lib.hid (HV4.out.ext hb5)
    go_wp2_with fail
    refine (Norm40 l _ _ HV5.out (by omega) HOK.out).mono ?_
    rintro e w6 ⟨r6, rfl, hR6, hb6⟩
    have HR6 := Lib.hid hR6.2
    have HV6 := Lib.hid (HV5.out.ext hb6)
    clear hR6
    go_wp2_with fail
    refine (norm41 l _ _ HV6.out (by omega) (aok_oks HOK.out)).mono ?_
    rintro e w7 ⟨r7, rfl, hR7, hb7⟩
    have HR7 := Lib.hid hR7
    have HR67 := Lib.hid (HR6.out.ext hb7)
    have hnl : (lNorm l).length ≤ 1000000 := Nat.le_trans (lNorm_len l) (by omega)
    clear hR7
    go_wp2_with fail
    refine (rows34 (lNorm l) (lNorm l) _ _ _ HR67.out HR7.out hnl hnl).mono ?_
    rintro e w8 ⟨rfl, hb8⟩
    rw [decide_eq_true rfl]
    have hall : Below (w3.alloc (.cells (encV (lookV (lNorm l) k).1) 65)).heap.size (w3.alloc (.cells (encV (lookV (lNorm l) k).1) 65)) w8 := by
      have h5 := hb4.trans (hb5.mono hb4.size)
      have h6 := h5.trans (hb6.mono h5.size)
      have h7 := h6.trans (hb7.mono h6.size)
      exact h7.trans (hb8.mono h7.size)
    have hl5 := ldB65 (off := 0) (HB3.out.ext hall) _ (fun j _ => by rw [Nat.zero_add])
    have hl7 := ldB65 (off := 0) (HC3.out.ext hall) _ (fun j _ => by rw [Nat.zero_add])
    have he : ∀ W, (Op.equalIn 10000 65 (.agg (encV (lookV (lNorm l) k).1)) (.agg (encV (lookV (lNorm l) k).1))).run Try.prog W = .ok true W := fun W => (equalIn65 9997 _ _ W).trans (by rw [decide_eq_true rfl])
    have hbw8 := hbw3.trans (hall.mono hbw3.size)
    go_wp2_with fail
    refine (alive30 _).mono ?_
    rintro e w9 ⟨rfl, hb9⟩
    go_wp2_with fail
    go_ret
    exact ⟨rfl, hbw8.trans (hb9.mono hbw8.size)⟩
  · go_enter Try.func7, Try.ntmps7
    go_wp2_with fail
    refine (alive30 _).mono ?_
    rintro e w9 ⟨rfl, hb9⟩
    go_wp2_with fail
    go_ret
    exact ⟨rfl, ((Below.refl _ _).alloc (Nat.le_refl _) _).trans (hb9.mono (by simp))⟩
end Go.Proofs.Ythnhlbikfidpnaa
