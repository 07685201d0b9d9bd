/- The document's Norm. -/
import Derived.Test.YthnhlbikfidpnaaN
import Derived.Test.YthnhlbikfidpnaaP
namespace Go.Proofs.Ythnhlbikfidpnaa
open Go.RowKit
set_option maxHeartbeats 2000000
set_option maxRecDepth 100000
attribute [local go_sem ↓] exec_load67 exec_load65 exec_load63 exec_store67
theorem aok_oks {l : List Am} (h : AOk l) : Oks l := fun _ a hi => h a (List.mem_of_getElem? hi)
theorem oks_aok {l : List Am} (h : Oks l) : AOk l := fun a ha => by
  obtain ⟨i, hi, rfl⟩ := List.getElem_of_mem ha
  exact h i _ (List.getElem?_eq_getElem hi)
theorem own_row {w : World} {B : Nat} {v : Value} {l : List Am} (h : Own w B v l) : Row encA 21 w v l := by
  obtain ⟨hlen, h⟩ := h
  rcases h with ⟨rfl, h0⟩ | ⟨g, cap, cur, rfl, hg, hh, hc, hm, hs, ht⟩
  · exact ⟨none, 0, by rw [h0], by omega, fun h => by omega⟩
  · refine ⟨some ⟨g, 0, none⟩, cap, rfl, hc, fun hl => ⟨g, 0, rfl, Blk.lt hh, fun i x hx j hj => ?_⟩⟩
    rw [Blk.cell hh, Nat.zero_add]
    have hi : i < l.length := (List.getElem?_eq_some_iff.1 hx).1
    have h1 : (cellsL l)[i * 21 + j]? = (encA x)[j]? := by
      clear ht hs hlen hc hl
      induction l generalizing i with
      | nil => simp at hi
      | cons y l ih =>
        show ((encA y).toList ++ cellsL l)[i * 21 + j]? = _
        cases i with
        | zero =>
          simp at hx; subst hx
          rw [Nat.zero_mul, Nat.zero_add, List.getElem?_append_left (by simpa using hj)]
          simp
        | succ i =>
          rw [List.getElem?_append_right (by simp; omega)]
          have : (i + 1) * 21 + j - (encA y).toList.length = i * 21 + j := by simp; omega
          rw [this]
          exact ih i (by simpa using hx) (by simpa using hi)
    rw [← h1, ← ht, List.getElem?_take, if_pos (by omega)]
    simp
theorem lPut_len (l : List Am) (a : Am) : (lPut l a).length ≤ l.length + 1 := by
  have h := foldl_len a l ([], false) 1 (by simp)
  unfold lPut putAll
  split
  · rename_i h2; rw [if_pos h2] at h; omega
  · rename_i h2; rw [if_neg h2] at h; rw [List.length_append]; simp; omega
theorem foldl_lPut_len : ∀ (m l : List Am), (m.foldl lPut l).length ≤ l.length + m.length
  | [], l => by simp
  | a :: m, l => by
    have := foldl_lPut_len m (lPut l a)
    have := lPut_len l a
    rw [List.foldl_cons, List.length_cons]
    omega
/-- What has been put when k atoms have come. -/
def nrm (l : List Am) (k : Nat) : List Am := ((l.take k).filter Am.right).foldl lPut []
theorem nrm_zero (l : List Am) : nrm l 0 = [] := by simp [nrm]
theorem nrm_yes {l : List Am} {k : Nat} {x : Am} (h : l[k]? = some x) (hr : x.right = true) : nrm l (k + 1) = lPut (nrm l k) x := by
  unfold nrm
  rw [List.take_add_one, h, List.filter_append, List.foldl_append]
  simp [hr]
theorem nrm_no {l : List Am} {k : Nat} {x : Am} (h : l[k]? = some x) (hr : x.right = false) : nrm l (k + 1) = nrm l k := by
  unfold nrm
  rw [List.take_add_one, h, List.filter_append, List.foldl_append]
  simp [hr]
theorem nrm_len (l : List Am) (k : Nat) : (nrm l k).length ≤ k := by
  have h1 := foldl_lPut_len ((l.take k).filter Am.right) []
  have h2 := List.length_filter_le Am.right (l.take k)
  have h3 := List.length_take_le k l
  unfold nrm
  simp at h1
  omega
theorem nrm_ok {l : List Am} (h : AOk l) (k : Nat) : AOk (nrm l k) := (foldl_lPut _ [] (fun a ha => h a (List.mem_of_mem_take (List.mem_filter.1 ha).1)) (fun a h => by cases h) .nil).1
theorem lNorm_nrm {l : List Am} (h : lRight l = false) : lNorm l = nrm l l.length := by
  unfold lNorm nrm
  rw [if_neg (by rw [h]; simp), List.take_of_length_le (Nat.le_refl _)]
theorem lNorm_len (l : List Am) : (lNorm l).length ≤ l.length := by
  cases h : lRight l with
  | true => unfold lNorm; rw [if_pos h]; exact Nat.le_refl _
  | false => rw [lNorm_nrm h]; exact nrm_len l _
theorem norm41 (l : List Am) (v : Value) (w : World) (hv : Row encA 21 w v l) (hl : l.length ≤ 1000000) (hok : Oks l) :
    Calls Try.prog 41 #[v] w fun e w' => ∃ u, e = .returned u ∧ Row encA 21 w' u (lNorm l) ∧ Below w.heap.size w w' := by
  have HV := Lib.hid hv
  have HOK := Lib.hid hok
  obtain ⟨A, c, rfl, hlc, hA⟩ := hv
  have HA := Lib.hid hA
  clear hA hok
  cases hr : lRight l
  · have HR := Lib.hid hr
    clear hr
    go_enter Try.func41, Try.ntmps41
    go_wp2_with (go_at_call 39; refine (right39 l _ _ HV.out hl HOK.out).mono ?_; rintro e w1 ⟨rfl, hb1⟩; rw [HR.out])
    go_loopw [3, 4] (fun o i wr => ∃ (k : Nat), k ≤ l.length ∧ i = .int .i64 k ∧ Row encA 21 wr o (nrm l k) ∧ Below w.heap.size w wr) (fun _ i _ => l.length - (intOf i).toNat)
    case atStart => exact ⟨0, by omega, rfl, by rw [nrm_zero]; exact Row.nil _, hb1⟩
    case round =>
      obtain ⟨k, hk, rfl, how, hbr⟩ := hrel
      have HW := Lib.hid how
      clear how
      by_cases hlt : k < l.length
      · obtain ⟨b, off, rfl, hb, hx⟩ := HA.out (by omega)
        obtain ⟨x, hxk⟩ : ∃ x, l[k]? = some x := ⟨l[k], List.getElem?_eq_getElem hlt⟩
        have hxo : Hid x.ok := HOK.out k x hxk
        have hx67 : ∀ W, Below w.heap.size w W → (ldOp 67 (.pointer (some ⟨b, off + k * 21, none⟩))).run Try.prog W = .ok (.value (.agg (encA x))) W := fun W hW => ld67 W b _ (encA x) rfl (fun j hj => ((bcB hW).1 _ _ hb).trans (hx k x hxk j hj))
        have HX := Lib.hid hxk
        clear hx hxk HA
        cases hxr : x.right
        · have HXR := Lib.hid hxr
          clear hxr
          go_wp2_with (go_at_call 70; refine (right70 x hxo _).mono ?_; rintro e w2 ⟨rfl, hb2⟩; rw [HXR.out])
          refine ⟨⟨k + 1, by omega, by go_num, ?_, ?_⟩, by simp [intOf]; omega⟩
          · rw [nrm_no HX.out HXR.out]; exact HW.out.ext hb2
          · exact hbr.trans (hb2.mono hbr.size)
        · have HXR := Lib.hid hxr
          have hnl : (nrm l k).length ≤ 1000000 := Nat.le_trans (nrm_len l k) (by omega)
          clear hxr
          go_wp2_with (first
            | (go_at_call 70; refine (right70 x hxo _).mono ?_; rintro e w2 ⟨rfl, hb2⟩; rw [HXR.out]; have hB2 : Below w.heap.size w w2 := hbr.trans (hb2.mono hbr.size))
            | (go_at_call 72; refine (put72 (nrm l k) x _ _ (HW.out.ext hb2) hnl (aok_oks (nrm_ok (oks_aok HOK.out) k)) hxo).mono ?_; rintro e w3 ⟨u, rfl, how3, hb3⟩))
          refine ⟨⟨k + 1, by omega, by go_num, ?_, ?_⟩, by simp [intOf]; omega⟩
          · rw [nrm_yes HX.out HXR.out]; exact own_row how3
          · exact hB2.trans (hb3.mono hB2.size)
      · obtain rfl : k = l.length := by omega
        go_wp2_with fail
        go_ret
        exact ⟨_, rfl, by rw [lNorm_nrm HR.out]; exact HW.out, hbr⟩
  · have HR := Lib.hid hr
    clear hr
    go_enter Try.func41, Try.ntmps41
    go_wp2_with (go_at_call 39; refine (right39 l _ _ HV.out hl HOK.out).mono ?_; rintro e w1 ⟨rfl, hb1⟩; rw [HR.out])
    go_ret
    exact ⟨_, rfl, by unfold lNorm; rw [if_pos HR.out]; exact HV.out.ext hb1, hb1⟩
end Go.Proofs.Ythnhlbikfidpnaa
