/- lat.Each as an iterator. -/
import Derived.Test.YthnhlbikfidpnaaSe
import Derived.RangeFuncNested
import Derived.RangeFuncBound
import Derived.RangeFuncCalls
import Derived.RangeFuncLeaves
import Derived.Shelf.Abstract
import Derived.Shelf.RegionOpen
import Derived.OwnWalkIn
import Derived.TacticsInMore
import Derived.LoopNIn
import Derived.LoopIn
namespace Go.Proofs.Ythnhlbikfidpnaa
open Go.RowKit Go.Shelf
set_option maxHeartbeats 2000000
set_option maxRecDepth 100000
attribute [local go_sem] Oper.semAt_some
attribute [local go_sem ↓] exec_load67 exec_load65 exec_load63 exec_store67
/-- Whatever cells do not lie in a block of 'own' lie as they lay. -/
structure KeepC (own : Nat → TypeId → Prop) (W W' : World) : Prop where
  size : W.heap.size ≤ W'.heap.size
  same : ∀ (k : Nat) (c : Array Value) (t : TypeId) (f : Nat × Nat), ¬ own k t → W.heap[k]? = some (.cells c t f) → W'.heap[k]? = some (.cells c t f)
theorem KeepC.refl (own : Nat → TypeId → Prop) (W : World) : KeepC own W W := ⟨Nat.le_refl _, fun _ _ _ _ _ h => h⟩
theorem KeepC.trans {own : Nat → TypeId → Prop} {A B C : World} (h : KeepC own A B) (k : KeepC own B C) : KeepC own A C := ⟨Nat.le_trans h.size k.size, fun i c t f hi hc => k.same i c t f hi (h.same i c t f hi hc)⟩
theorem KeepC.of_below {own : Nat → TypeId → Prop} {W W' : World} (h : Below W.heap.size W W') : KeepC own W W' := ⟨h.size, fun k c t f _ hc => (h.block k (Array.getElem?_eq_some_iff.1 hc).1).trans hc⟩
theorem KeepC.blk {own : Nat → TypeId → Prop} {W W' : World} (h : KeepC own W W') {g : Nat} {t : TypeId} {cs : Array Value} (hg : ¬ own g t) (hb : Blk W g t cs) : Blk W' g t cs := h.same g cs t (0, 0) hg hb
theorem keepC_b {own : Nat → TypeId → Prop} (W : World) (l : Nat) (o o' : Obj) (hl : W.heap[l]? = some o) (ho : o.isCells = false) : KeepC own W (W.putObj l o') :=
  ⟨by simp, fun k _ _ _ _ hc => by
    by_cases e : k = l
    · subst e
      rw [hl] at hc
      injection hc with hc
      subst hc
      cases ho
    · exact (World.putObj_heap_other e).trans hc⟩
theorem grown_of_below {W W' : World} (h : Below W.heap.size W W') : W.grownBy W' none := ⟨h.os, h.tape, h.output, h.size, fun k hk _ => h.block k hk⟩
def encS (x : OkA) : Array Value := #[.agg (encK x.1.k), .agg (encV x.1.v)]
theorem each63 (l : List Am) (A : Option Addr) (N c : Nat) (Bs n : Nat) (own : Nat → TypeId → Prop) (w : World) (hn : 1 ≤ n) (hBs : w.cell? ⟨Bs, 0, none⟩ = some (.slice A N c)) (hown : ∀ k, own k 67 → k < w.heap.size)
    (hR : Row encA 21 w (.slice A N c) l) (hl : l.length ≤ 500000) (hok : AOk l) :
    SeqStopsK Fence.wide n Try.prog 63 #[.pointer (some ⟨Bs, 0, none⟩)] encS (KeepC own) (fun ys => ys.map (·.1) = lNorm l) (fun pre => pre.map (·.1) <+: lNorm l) (lNorm l).length w := fun r J Jx W hW hJ hJx hY h0 => by
  have hBsl : Bs < w.heap.size := World.block_lt_of_cell? w _ hBs
  have hc' : W.cell? ⟨Bs, 0, none⟩ = some (.slice A N c) := (hW.cell (p := ⟨Bs, 0, none⟩) hBsl).trans hBs
  have HR := Lib.hid (hR.ext hW)
  have hsz := hW.size
  have hno : ∀ k, W.heap.size ≤ k → ¬ own k 67 := fun k hk ho => by have := hown k ho; omega
  have HNO := Lib.hid hno
  clear hR hown hno
  refine callsIn_of_wp Try.func63 rfl trivial ?_ rfl
  simp only [encS, Try.ntmps63, List.size_toArray, List.length_cons, List.length_nil, Nat.reduceAdd, Nat.reduceSub, Array.replicate_succ, Array.replicate_zero, List.push_toArray, List.append_toArray, List.nil_append, List.cons_append]
  gi_wp2_with ((refine ⟨trivial, ?_⟩; gi_at_call 40; refine (callsIn_wide.2 (Norm40 l _ _ HR.out hl hok)).mono ?_; rintro e W1 ⟨u, rfl, ⟨⟨g, d, cur, rfl, hg, hcur⟩, hR1⟩, hb1⟩))
  have HN1 : Hid (¬ own g 67) := HNO.out g hg
  have HCUR := Lib.hid hcur
  have hsz1 := hb1.size
  have HCELL : Hid (∀ k x, (lNorm l)[k]? = some x → ∀ j, j < 21 → cur[k * 21 + j]? = (encA x)[j]?) := fun k x hx j hj => by
    obtain ⟨A', c', he, _, hr⟩ := hR1
    obtain ⟨b, off, hA, _, hcc⟩ := hr (Nat.lt_of_le_of_lt (Nat.zero_le _) (List.getElem?_eq_some_iff.1 hx).1)
    injection he with h1 h2 h3
    rw [hA] at h1
    injection h1 with h1
    injection h1 with h1 h2
    subst h1 h2
    have := hcc k x hx j hj
    rwa [Nat.zero_add, hcur.cell] at this
  have hlo : AOk (lNorm l) := lNorm_ok hok
  obtain ⟨Y, hY1⟩ : ∃ Y : List OkA, Y.map (·.1) = lNorm l := ⟨(okArr (lNorm l) hlo).toList, okArr_map _ _⟩
  have HY1 := Lib.hid hY1
  have hll : Y.length = (lNorm l).length := by rw [← hY1, List.length_map]
  have hJ1 : J [] W1 := hJ _ _ _ none h0 (grown_of_below hb1) (fun r e => by cases e)
  have HY := Lib.hid hY
  have hnl : (lNorm l).length ≤ 500000 := Nat.le_trans (lNorm_len l) hl
  clear hY1 hY hR1 hlo hc' hJx hcur
  generalize hL : lNorm l = L at HCELL hll HY hnl HY1
  have HL := Lib.hid hL
  clear hL
  have HJ := Lib.hid hJ
  clear hJ
  gi_wp2
  gi_loopw [8] (fun i wr => ∃ k : Nat, k ≤ L.length ∧ i = .int .i64 k ∧ J (Y.take k) wr ∧ KeepC own W1 wr ∧ W.heap.size ≤ wr.heap.size)
    (fun i _ => L.length - (intOf i).toNat)
  case atStart => exact ⟨0, Nat.zero_le _, rfl, by rw [List.take_zero]; exact hJ1, KeepC.refl _ _, hsz1⟩
  case round =>
    obtain ⟨k, hk, rfl, hJs, hkp, hsr⟩ := hrel
    have HJS := Lib.hid hJs
    have HKP := Lib.hid hkp
    clear hJs hkp
    by_cases hlt : k < L.length
    · obtain ⟨y, hyk⟩ : ∃ y, Y[k]? = some y := ⟨Y[k], List.getElem?_eq_getElem (by omega)⟩
      have hxk : L[k]? = some y.1 := by rw [← HY1.out, List.getElem?_map, hyk]; rfl
      have hld : (ldOp 67 (.pointer (some ⟨g, k * 21, none⟩))).run Try.prog wr = .ok (.value (.agg (encA y.1))) wr := ld67 wr g _ (encA y.1) rfl (fun j hj => by
        rw [(HKP.out.blk HN1.out HCUR.out).cell]
        exact HCELL.out k y.1 hxk j hj)
      have hst : ∀ cs : Array Value, cs.size = 21 → (stOp 67 (.pointer (some ⟨wr.heap.size, 0, none⟩)) (.agg (encA y.1))).run Try.prog (wr.alloc (.cells cs 67)) = .ok .skip (wr.alloc (.cells (encA y.1) 67)) := fun cs h0 => st67 wr cs h0 y.1
      have hlk : (ldOp 63 (.pointer (some ⟨wr.heap.size, 0, none⟩))).run Try.prog (wr.alloc (.cells (encA y.1) 67)) = .ok (.value (.agg (encK y.1.k))) (wr.alloc (.cells (encA y.1) 67)) := ldB63 (Blk.new _ _ _) y.1.k (fun j hj => by rw [Nat.zero_add]; exact keyCell y.1 j hj)
      have hlv : (ldOp 65 (.pointer (some ⟨wr.heap.size, 12, none⟩))).run Try.prog (wr.alloc (.cells (encA y.1) 67)) = .ok (.value (.agg (encV y.1.v))) (wr.alloc (.cells (encA y.1) 67)) := ldB65 (Blk.new _ _ _) y.1.v (fun j hj => valCell y.1 j hj)
      have hJ2 : J (Y.take k) (wr.alloc (.cells (encA y.1) 67)) := HJ.out _ _ _ none HJS.out (World.grownBy_alloc wr _ none) (fun r e => by cases e)
      obtain ⟨fn, tmps, assign, body, hy, hRR⟩ := HY.out (Y.take k) y _ hJ2 (by rw [List.length_take]; omega)
      have HRR := Lib.hid hRR
      have HYK := Lib.hid hyk
      have htk : Hid (Y.take (k + 1) = Y.take k ++ [y]) := by show Y.take (k + 1) = _; rw [List.take_add_one, hyk]; rfl
      unfold encS at hy
      clear hRR hyk hxk hJ2
      gi_wp2
      refine HRR.out.mono ?_
      rintro e W3 (⟨rfl, hJ3, hk3⟩ | ⟨rfl, hJx3⟩)
      · have h3 := hk3.size
        have HK3 := Lib.hid ((HKP.out.trans (KeepC.of_below ((Below.refl _ wr).alloc (Nat.le_refl _) (.cells (encA y.1) 67)))).trans hk3)
        simp only [World.size_alloc] at h3
        clear hk3
        gi_wp2
        go_roundw
        case rel => exact ⟨k + 1, by omega, by simp, by rw [htk.out]; exact hJ3, HK3.out, by omega⟩
        case measure => simp [intOf]; omega
      · gi_wp2
        refine bodyPost_ret (results_none rfl _ _ _) rfl ?_
        refine ⟨⟨_, rfl⟩, .inr ⟨_, ?_, hJx3⟩⟩
        rw [← htk.out, List.map_take, HY1.out, HL.out]
        exact List.take_prefix _ _
    · obtain rfl : k = L.length := by omega
      gi_wp2
      go_end0
      exact ⟨⟨_, rfl⟩, .inl ⟨_, by rw [List.map_take, HY1.out, List.take_of_length_le (Nat.le_refl _), HL.out], HJS.out⟩⟩
end Go.Proofs.Ythnhlbikfidpnaa
