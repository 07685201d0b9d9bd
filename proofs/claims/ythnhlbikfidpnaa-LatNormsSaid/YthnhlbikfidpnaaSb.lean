/- lat.state: a map's atoms as a row that rises. -/
import Derived.Test.YthnhlbikfidpnaaSa
import Derived.Maps.AppendAt
namespace Go.Proofs.Ythnhlbikfidpnaa
open Go.RowKit
set_option maxHeartbeats 1000000
set_option maxRecDepth 100000
theorem heap_setCells_far {g i : Nat} (h : i ≠ g) : ∀ (xs : List Value) (off : Nat) (W : World), (W.setCells g off xs).heap[i]? = W.heap[i]?
  | [], _, _ => rfl
  | v :: r, off, W => (heap_setCells_far h r (off + 1) _).trans (RowKit.Below.heap_setCell W ⟨g, off, none⟩ v i h)
theorem rest_setCells {g : Nat} : ∀ (xs : List Value) (off : Nat) (W : World), (W.setCells g off xs).os = W.os ∧ (W.setCells g off xs).tape = W.tape ∧ (W.setCells g off xs).drawn = W.drawn ∧ (W.setCells g off xs).output = W.output
  | [], _, _ => ⟨rfl, rfl, rfl, rfl⟩
  | _ :: r, off, _ => rest_setCells r (off + 1) _
theorem world_ext {a b : World} (h : ∀ i : Nat, a.heap[i]? = b.heap[i]?) (h1 : a.os = b.os) (h2 : a.tape = b.tape) (h3 : a.drawn = b.drawn) (h4 : a.output = b.output) : a = b := by
  have hh : a.heap = b.heap := Array.ext_getElem? h
  cases a; cases b
  simp only at hh h1 h2 h3 h4
  subst hh h1 h2 h3 h4
  rfl
theorem setCells_alloc2 (W : World) (cs xs : Array Value) (t : TypeId) (o : Obj) (h : cs.size = xs.size) : ((W.alloc (.cells cs t)).alloc o).setCells W.heap.size 0 xs.toList = (W.alloc (.cells xs t)).alloc o := by
  have hb := blk_setCells xs.toList 0 _ cs ((Blk.new W t cs).alloc o)
  rw [whole_ xs cs h] at hb
  obtain ⟨r1, r2, r3, r4⟩ := rest_setCells (g := W.heap.size) xs.toList 0 ((W.alloc (.cells cs t)).alloc o)
  refine world_ext (fun i => ?_) r1 r2 r3 r4
  by_cases e : i = W.heap.size
  · subst e
    exact Eq.trans hb ((Blk.new W t xs).alloc o).symm
  · rw [heap_setCells_far e]
    simp only [World.alloc, Array.getElem?_push, Array.size_push]
    split
    · rfl
    · first | rfl | rw [if_neg e, if_neg e]
theorem st63_2 (W : World) (cs : Array Value) (h0 : cs.size = 12) (x : Ky) (o : Obj) :
    (stOp 63 (.pointer (some ⟨W.heap.size, 0, none⟩)) (.agg (encK x))).run Try.prog ((W.alloc (.cells cs 63)).alloc o) = .ok .skip ((W.alloc (.cells (encK x) 63)).alloc o) := by
  rw [stB63 ((Blk.new W 63 cs).alloc o) x (by omega)]
  unfold stW
  rw [setCells_alloc2 W cs (encK x) 63 o h0]
theorem st65_2 (W : World) (cs : Array Value) (h0 : cs.size = 9) (x : Vl) (o : Obj) :
    (stOp 65 (.pointer (some ⟨W.heap.size, 0, none⟩)) (.agg (encV x))).run Try.prog ((W.alloc (.cells cs 65)).alloc o) = .ok .skip ((W.alloc (.cells (encV x) 65)).alloc o) := by
  rw [stB65 ((Blk.new W 65 cs).alloc o) x (by omega)]
  unfold stW
  rw [setCells_alloc2 W cs (encV x) 65 o h0]
theorem appB {ops : Array Oper} {rest : List Oper} {o : Oper} {a : Act} {Q : Exit → Act → World → Prop} {w : World} (hgd : o.guard = none) (s x : Operand)
    (ho : o.op = .call { callee := .builtin .append, args := #[s, x], argTypes := #[54, 54] }) (base : Nat) (v : Value) (l : List Am) (hs : a.eval s = v) (hown : Own w base v l)
    (g c : Nat) (y : Am) (hx : a.eval x = .slice (some ⟨g, 0, none⟩) 1 c) (hnews : ∀ j, w.cell? ⟨g, j, none⟩ = (encA y)[j]?) (hl : l.length ≤ 2000000) (hbase : base ≤ w.heap.size)
    (h : ∀ v' w', Own w' base v' (l ++ [y]) → w.grownBy w' v.ownBlock → v' ≠ .slice none 0 0 → (v'.ownBlock = v.ownBlock ∨ v'.ownBlock = some w.heap.size) → wpList Try.prog ops Q rest (a.put o.dst v') w') : wpList Try.prog ops Q (o :: rest) a w := by
  obtain ⟨i, hi, hz, hsz, hby⟩ := info67
  refine wpList_append_own_at _ hgd s x 54 ho base 67 i (.agg (encA zA)) 21 40 Try.underlying54 hi hz hsz hby rfl (by omega) v l.length (cellsL l) hs hown ⟨g, 0, none⟩ 1 c (encA y).toList hx rfl (fun j u hu => ?_) (oneCells y) (Nat.le_trans (show l.length + 1 ≤ 2000001 by omega) (by decide)) (by omega) hbase (fun v' w' h1 h2 h3 h4 => h v' w' ?_ h2 (fun e => by have := (h3.1 e).2; omega) h4)
  · have hadd : (⟨g, 0, none⟩ : Addr).add j = ⟨g, j, none⟩ := by unfold Addr.add; split <;> simp_all
    rw [hadd, hnews j]
    simpa using hu
  · unfold Own
    rw [cellsL_append, cellsL_one, List.length_append]
    exact h1
/-! ### ranging over the map -/
theorem ents_mem {m : List Am} {e : MapEntry} (h : e ∈ entsFrom m 0) : ∃ i a, m[i]? = some a ∧ e = { key := .agg (encK a.k), val := .agg (encV a.v), born := i } := by
  obtain ⟨i, hi, he⟩ := List.getElem_of_mem h
  have := ents_get m 0 i
  rw [List.getElem?_eq_getElem hi, he] at this
  obtain ⟨a, ha, hae⟩ := Option.map_eq_some_iff.1 this.symm
  exact ⟨i, a, ha, by rw [← hae, Nat.zero_add]⟩
theorem ents_born (m : List Am) : ∀ i, (entsFrom m i).map (·.born) = List.range' i m.length := by
  induction m with
  | nil => intro i; rfl
  | cons a l ih => intro i; rw [entsFrom, List.map_cons, ih, List.length_cons, List.range'_succ]
theorem next103 (w : World) (ty : TypeId) (r b : Nat) (m : List Am) (seen rest : List Nat) (hr : w.heap[r]? = some (.mapIter (some b) m.length seen.toArray m.length)) (hb : MapB w b m) (hrb : b ≠ r)
    (hp : (seen ++ rest).Perm (List.range m.length)) :
    (rest = [] ∧ (Instr.next (.pointer (some ⟨r, 0, none⟩)) false ty).run Try.prog w = .ok (.tuple #[.bool false]) w) ∨
    ∃ i a rest' w', m[i]? = some a ∧ (seen ++ [i] ++ rest').Perm (List.range m.length) ∧ (Instr.next (.pointer (some ⟨r, 0, none⟩)) false ty).run Try.prog w = .ok (.tuple #[.bool true, .agg (encK a.k), .agg (encV a.v)]) w' ∧
      (Instr.entry (.pointer (some ⟨r, 0, none⟩))).run Try.prog w' = .ok (.tuple #[.agg (encK a.k), .agg (encV a.v)]) w' ∧ w'.heap[r]? = some (.mapIter (some b) m.length (seen ++ [i]).toArray m.length) ∧ w.grownBy w' (some r) ∧ w'.heap.size = w.heap.size := by
  have hnd : (seen ++ rest).Nodup := hp.nodup_iff.2 List.nodup_range
  rw [List.nodup_append] at hnd
  have hmem : ∀ i, i < m.length → i ∈ seen ∨ i ∈ rest := fun i hi => List.mem_append.1 (hp.mem_iff.2 (List.mem_range.2 hi))
  rcases run_next_at (P := Try.prog) w ty r b m.length m.length seen.toArray (entsFrom m 0).toArray m.length hr hb (fun x hx => by
    obtain ⟨i, a, ha, rfl⟩ := ents_mem (by simpa using hx)
    exact (List.getElem?_eq_some_iff.1 ha).1) (Nat.le_refl _) with ⟨h0, hrun⟩ | ⟨e, he, w1, hal, hrun⟩
  · refine .inl ⟨?_, hrun⟩
    cases hre : rest with
    | nil => rfl
    | cons i rest' =>
      exfalso
      have hi : i < m.length := List.mem_range.1 (hp.mem_iff.1 (by rw [hre]; simp))
      have hns : i ∉ seen := fun h => hnd.2.2 i h i (by rw [hre]; simp) rfl
      have hem : ({ key := .agg (encK m[i].k), val := .agg (encV m[i].v), born := i } : MapEntry) ∈ (leftOf (entsFrom m 0).toArray seen.toArray).toList := by
        unfold leftOf
        have h1 := ents_get m 0 i
        rw [List.getElem?_eq_getElem hi, Option.map_some, Nat.zero_add] at h1
        simp only [Array.toList_filter, List.mem_filter]
        exact ⟨List.mem_of_getElem? h1, by simp [hns]⟩
      have := Array.eq_empty_of_size_eq_zero h0
      rw [this] at hem
      cases hem
  · have hem : e ∈ entsFrom m 0 ∧ e.born ∉ seen := by
      unfold leftOf at he
      simp only [Array.toList_filter, List.mem_filter] at he
      exact ⟨he.1, by simpa using he.2⟩
    obtain ⟨⟨i, a, ha, rfl⟩, hns⟩ := (⟨ents_mem hem.1, hem.2⟩ : _ ∧ _)
    simp only at hns
    have hi : i < m.length := (List.getElem?_eq_some_iff.1 ha).1
    have hir : i ∈ rest := (hmem i hi).resolve_left hns
    obtain ⟨l1, l2, hl⟩ := List.append_of_mem hir
    have hr1 : w1.heap[r]? = some (.mapIter (some b) m.length seen.toArray m.length) := by rcases hal with rfl | rfl <;> exact hr
    have hb1 : MapB w1 b m := by rcases hal with rfl | rfl <;> exact hb
    have hrl : r < w1.heap.size := by
      rcases Nat.lt_or_ge r w1.heap.size with h | h
      · exact h
      · rw [Array.getElem?_eq_none h] at hr1; cases hr1
    have hset : (Go.ChangeMaps.setBlock w1 r (.mapIter (some b) m.length (seen.toArray.push i) m.length)).heap[r]? = some (.mapIter (some b) m.length (seen.toArray.push i) m.length) := by
      simp [Go.ChangeMaps.setBlock, hrl]
    have hoth : ∀ k, k ≠ r → (Go.ChangeMaps.setBlock w1 r (.mapIter (some b) m.length (seen.toArray.push i) m.length)).heap[k]? = w1.heap[k]? := fun k hk => by
      simp [Go.ChangeMaps.setBlock, Array.getElem?_setIfInBounds, Ne.symm hk]
    refine .inr ⟨i, a, l1 ++ l2, _, ha, ?_, hrun, ?_, by rw [hset]; simp, ?_, ?_⟩
    · refine List.Perm.trans ?_ hp
      rw [hl, List.append_assoc]
      show (seen ++ (i :: (l1 ++ l2))).Perm (seen ++ (l1 ++ i :: l2))
      exact List.Perm.append_left _ (List.perm_middle.symm)
    · refine run_entry_at _ r b m.length seen.toArray (entsFrom m 0).toArray m.length { key := .agg (encK a.k), val := .agg (encV a.v), born := i } hset ((hoth b hrb).trans hb1) (by simpa using hem.1) ?_
      simp only [ents_born]
      exact List.nodup_range'
    · rcases hal with rfl | rfl <;> exact ⟨rfl, rfl, rfl, by simp [Go.ChangeMaps.setBlock], fun k _ hk => hoth k (fun e => hk (by rw [e]))⟩
    · rcases hal with rfl | rfl <;> simp [Go.ChangeMaps.setBlock]
theorem wpNext103 (w : World) {ops : Array Oper} {rest : List Oper} {o : Oper} {a : Act} {Q : Exit → Act → World → Prop} (hg : o.guard = none) (it : Operand) (hop : o.op = Op.next it false)
    (r b : Nat) (m : List Am) (seen left : List Nat) (hit : a.eval it = .pointer (some ⟨r, 0, none⟩)) (hr : w.heap[r]? = some (.mapIter (some b) m.length seen.toArray m.length)) (hb : MapB w b m) (hrb : b ≠ r) (hp : (seen ++ left).Perm (List.range m.length))
    (hDone : left = [] → wpList Try.prog ops Q rest (a.put o.dst (.tuple #[.bool false])) w)
    (hMore : ∀ i x left' w', m[i]? = some x → (seen ++ [i] ++ left').Perm (List.range m.length) → (Instr.entry (.pointer (some ⟨r, 0, none⟩))).run Try.prog w' = .ok (.tuple #[.agg (encK x.k), .agg (encV x.v)]) w' →
      w'.heap[r]? = some (.mapIter (some b) m.length (seen ++ [i]).toArray m.length) → w.grownBy w' (some r) → w'.heap.size = w.heap.size → wpList Try.prog ops Q rest (a.put o.dst (.tuple #[.bool true, .agg (encK x.k), .agg (encV x.v)])) w') :
    wpList Try.prog ops Q (o :: rest) a w := by
  refine wpList_plain hg fun K' hK' => ?_
  unfold Oper.wp
  rcases next103 w o.type r b m seen left hr hb hrb hp with ⟨h0, hrun⟩ | ⟨i, x, left', w', hx, hp', hrun, hen, hr', hgr, hsz⟩
  · simp [execOp, hop, hit, hrun, Result.andThen]
    exact hK' _ _ (hDone h0)
  · simp [execOp, hop, hit, hrun, Result.andThen]
    exact hK' _ _ (hMore i x left' w' hx hp' hen hr' hgr hsz)
end Go.Proofs.Ythnhlbikfidpnaa
