/- put of the document: the plain law of one round, and append to an own row of atoms. -/
import Derived.Test.YthnhlbikfidpnaaL
namespace Go.Proofs.Ythnhlbikfidpnaa
open Go.RowKit
set_option maxHeartbeats 1000000
set_option maxRecDepth 100000
/-- One round of put: the rows so far, and whether a has been laid. -/
def putStep (a : Am) (s : List Am × Bool) (x : Am) : List Am × Bool :=
  if x.k = a.k then (s.1 ++ [⟨a.k, vMore x.v a.v⟩], true)
  else if !s.2 && kLess a.k x.k then (s.1 ++ [a, x], true)
  else (s.1 ++ [x], s.2)
def putAll (a : Am) (l : List Am) : List Am × Bool := l.foldl (putStep a) ([], false)
def lPut (l : List Am) (a : Am) : List Am := if (putAll a l).2 then (putAll a l).1 else (putAll a l).1 ++ [a]
def cellsL (l : List Am) : List Value := l.flatMap fun x => (encA x).toList
theorem cellsL_append (l m : List Am) : cellsL (l ++ m) = cellsL l ++ cellsL m := by simp [cellsL]
theorem cellsL_one (x : Am) : cellsL [x] = (encA x).toList := by simp [cellsL]
theorem cellsL_length (l : List Am) : (cellsL l).length = l.length * 21 := by
  induction l with
  | nil => rfl
  | cons x l ih => show ((encA x).toList ++ cellsL l).length = _; rw [List.length_append, ih, show (x :: l).length = l.length + 1 from rfl, Nat.add_mul, Nat.add_comm]; rfl
theorem putAll_take (a : Am) (l : List Am) (k : Nat) (x : Am) (h : l[k]? = some x) : putAll a (l.take (k + 1)) = putStep a (putAll a (l.take k)) x := by
  unfold putAll
  rw [List.take_add_one, h, List.foldl_append]
  rfl
theorem putStep_len (a : Am) (s : List Am × Bool) (x : Am) (n : Nat) (h : s.1.length + (if s.2 then 0 else 1) ≤ n) : (putStep a s x).1.length + (if (putStep a s x).2 then 0 else 1) ≤ n + 1 := by
  unfold putStep
  split
  · simp; split at h <;> omega
  · split
    · rename_i h2
      have : s.2 = false := by revert h2; cases s.2 <;> simp
      simp [this] at h ⊢; omega
    · simp only [List.length_append, List.length_singleton]; omega
theorem foldl_len (a : Am) (l : List Am) : ∀ (s : List Am × Bool) (n : Nat), s.1.length + (if s.2 then 0 else 1) ≤ n → (l.foldl (putStep a) s).1.length + (if (l.foldl (putStep a) s).2 then 0 else 1) ≤ n + l.length := by
  induction l with
  | nil => intro s n h; exact h
  | cons x l ih => intro s n h; have := ih _ _ (putStep_len a s x n h); rw [List.foldl_cons, List.length_cons, show n + (l.length + 1) = n + 1 + l.length by omega]; exact this
theorem putAll_len (a : Am) (l : List Am) : (putAll a l).1.length ≤ l.length + 1 := by
  have := foldl_len a l ([], false) 1 (by simp)
  unfold putAll
  omega
theorem oneCells (x : Am) : ∀ u ∈ (encA x).toList, u.oneCell' = true := by
  intro u hu
  have : (encA x).all (·.oneCell') = true := by simp [encA, encK, encV, encN, Value.oneCell']
  rw [Array.all_eq_true_iff_forall_mem] at this
  exact this u (by simpa using hu)
noncomputable def zA : Am := ⟨⟨0, 0, ⟨0, 0, 0, 0, 0, 0, 0, 0⟩, 0, 0⟩, ⟨0, ⟨0, 0, 0, 0, 0, 0, 0, 0⟩⟩⟩
def Own (w : World) (base : Nat) (v : Value) (l : List Am) : Prop := w.ownsRow base 67 21 v l.length (cellsL l)
theorem info67 : ∃ i, Try.prog.info? 67 = some i ∧ i.zero = some (.agg (encA zA)) ∧ i.size = 21 ∧ i.bytes = 40 := by
  refine ⟨_, rfl, ?_, ?_, ?_⟩
  · kernel_rfl
  · kernel_rfl
  · kernel_rfl
theorem appA {ops : Array Oper} {rest : List Oper} {o : Oper} {a : Act} {Q : Exit → Act → World → Prop} {w : World} (hgd : o.guard = none) (s x : Operand)
    (ho : o.op = .call { callee := .builtin .append, args := #[s, x], argTypes := #[54, 54] }) (base : Nat) (v : Value) (l : List Am) (hs : a.eval s = v) (hown : Own w base v l)
    (g c : Nat) (y : Am) (hx : a.eval x = .slice (some ⟨g, 0, none⟩) 1 c) (hnews : ∀ j, w.cell? ⟨g, j, none⟩ = (encA y)[j]?) (hl : l.length ≤ 2000000) (hbase : base ≤ w.heap.size)
    (h : ∀ v' w', Own w' base v' (l ++ [y]) → w.grownBy w' v.ownBlock → wpList Try.prog ops Q rest (a.put o.dst v') w') : wpList Try.prog ops Q (o :: rest) a w := by
  obtain ⟨i, hi, hz, hsz, hby⟩ := info67
  refine wpList_append_own _ hgd s x 54 ho base 67 i (.agg (encA zA)) 21 40 Try.underlying54 hi hz hsz hby rfl (by omega) v l.length (cellsL l) hs hown ⟨g, 0, none⟩ 1 c (encA y).toList hx rfl (fun j u hu => ?_) (oneCells y) (Nat.le_trans (show l.length + 1 ≤ 2000001 by omega) (by decide)) (by omega) hbase (fun v' w' h1 h2 _ => h v' w' ?_ h2)
  · have hadd : (⟨g, 0, none⟩ : Addr).add j = ⟨g, j, none⟩ := by unfold Addr.add; split <;> simp_all
    rw [hadd, hnews j]
    simpa using hu
  · unfold Own
    rw [cellsL_append, cellsL_one, List.length_append]
    exact h1
theorem stepA {ops : Array Oper} {o : Oper} {a : Act} {w : World} {K : Act → World → Prop} {Q : Exit → Act → World → Prop} {E : Prop} (hgd : o.guard = none) (s x : Operand)
    (ho : o.op = .call { callee := .builtin .append, args := #[s, x], argTypes := #[54, 54] }) (base : Nat) (v : Value) (l : List Am) (hs : a.eval s = v) (hown : Own w base v l)
    (g c : Nat) (y : Am) (hx : a.eval x = .slice (some ⟨g, 0, none⟩) 1 c) (hnews : ∀ j, w.cell? ⟨g, j, none⟩ = (encA y)[j]?) (hl : l.length ≤ 2000000) (hbase : base ≤ w.heap.size)
    (h : ∀ v' w', Own w' base v' (l ++ [y]) → w.grownBy w' v.ownBlock → K (a.put o.dst v') w') :
    if Region.wanted o (yielded ops a.tmps) = true then Oper.wp Try.prog o a w K Q else E := by
  have hw : Region.wanted o (yielded ops a.tmps) = true := by simp [Region.wanted, hgd]
  rw [if_pos hw]
  obtain ⟨i, hi, hz, hsz, hby⟩ := info67
  refine wp_append_own _ s x 54 ho base 67 i (.agg (encA zA)) 21 40 Try.underlying54 hi hz hsz hby rfl (by omega) v l.length (cellsL l) hs hown ⟨g, 0, none⟩ 1 c (encA y).toList hx rfl (fun j u hu => ?_) (oneCells y) (Nat.le_trans (show l.length + 1 ≤ 2000001 by omega) (by decide)) (by omega) hbase (fun v' w' h1 h2 _ => h v' w' ?_ h2)
  · have hadd : (⟨g, 0, none⟩ : Addr).add j = ⟨g, j, none⟩ := by unfold Addr.add; split <;> simp_all
    rw [hadd, hnews j]
    simpa using hu
  · unfold Own
    rw [cellsL_append, cellsL_one, List.length_append]
    exact h1
end Go.Proofs.Ythnhlbikfidpnaa
