/- lat.All up to the call of state: the map of what is known. -/
import Derived.Test.YthnhlbikfidpnaaV
namespace Go.Proofs.Ythnhlbikfidpnaa
open Go.RowKit
set_option maxHeartbeats 2000000
set_option maxRecDepth 100000
def mStep (m : List Am) (a : Am) : List Am := if a.right then mSet m a.k (match look m a.k with | some was => vMore was a.v | none => a.v) else m
def mRow (m : List Am) (row : List Am) : List Am := row.foldl mStep m
def mAll (ls : List (List Am)) : List Am := ls.foldl mRow []
theorem mRow_take {m row : List Am} {q : Nat} {x : Am} (h : row[q]? = some x) : mRow m (row.take (q + 1)) = mStep (mRow m (row.take q)) x := by
  unfold mRow; rw [List.take_add_one, h, List.foldl_append]; rfl
theorem mAll_take {ls : List (List Am)} {q : Nat} {x : List Am} (h : ls[q]? = some x) : mAll (ls.take (q + 1)) = mRow (mAll (ls.take q)) x := by
  unfold mAll; rw [List.take_add_one, h, List.foldl_append]; rfl
theorem look_ok {m : List Am} (h : AOk m) {k : Ky} {v : Vl} (hl : look m k = some v) : v.ok := (h _ (look_mem hl)).2
theorem mStep_ok {m : List Am} (h : AOk m) {a : Am} (ha : a.ok) : AOk (mStep m a) := by
  unfold mStep
  split
  · intro x hx
    rcases mSet_mem hx with hx | rfl
    · exact h x hx
    · refine ⟨ha.1, ?_⟩
      cases hl : look m a.k with
      | none => exact ha.2
      | some was => exact vMore_ok (look_ok h hl) ha.2
  · exact h
theorem mStep_dk {m : List Am} (h : Dk m) (a : Am) : Dk (mStep m a) := by
  unfold mStep
  split
  · exact mSet_dk h _ _
  · exact h
theorem mStep_look (m : List Am) (a : Am) (k : Ky) : look (mStep m a) k = if a.right = true ∧ a.k = k then comb (look m k) (some a.v) else look m k := by
  unfold mStep
  by_cases h : a.right = true
  · rw [if_pos h, mSet_look]
    by_cases e : a.k = k
    · subst e
      rw [if_pos rfl, if_pos ⟨h, rfl⟩]
      cases look m a.k <;> rfl
    · rw [if_neg e, if_neg (fun h' => e h'.2)]
  · rw [if_neg h, if_neg (fun h' => h h'.1)]
theorem mRow_spec : ∀ (row m : List Am), AOk m → Dk m → AOk row → AOk (mRow m row) ∧ Dk (mRow m row) ∧ ∀ k, look (mRow m row) k = comb (look m k) (rval row k)
  | [], m, h, hd, _ => ⟨h, hd, fun k => by rw [show rval [] k = none from rfl, comb_none]; rfl⟩
  | a :: row, m, h, hd, ho => by
    obtain ⟨h1, h2, h3⟩ := mRow_spec row (mStep m a) (mStep_ok h (ho a (by simp))) (mStep_dk hd a) (fun x hx => ho x (by simp [hx]))
    refine ⟨h1, h2, fun k => ?_⟩
    show look (mRow (mStep m a) row) k = _
    rw [h3, mStep_look]
    unfold rval
    by_cases hr : a.right = true
    · rw [List.filter_cons_of_pos hr, val_cons]
      by_cases e : a.k = k
      · rw [if_pos ⟨hr, e⟩, if_pos e, comb_assoc]
      · rw [if_neg (fun h' => e h'.2), if_neg e]
    · rw [List.filter_cons_of_neg hr, if_neg (fun h' => hr h'.1)]
theorem rt_more {x y : Am} (hx : x.right = true) (hy : y.right = true) (h : x.k = y.k) : (⟨x.k, vMore x.v y.v⟩ : Am).right = true := by
  rcases vMore_or x.v y.v with e | e
  · rw [e]; exact hx
  · rw [e, h]; exact hy
theorem iput_rt {a : Am} {l : List Am} (ha : a.right = true) (hl : ARt l) : ARt (iput a l) := by
  intro x hx
  rcases iput_mem hx with h | rfl | ⟨y, hy, hk, rfl⟩
  · exact hl x h
  · exact ha
  · have := rt_more (hl y hy) ha hk
    rwa [hk] at this
theorem foldl_rt : ∀ (m l : List Am), AOk m → ARt m → AOk l → Srt l → ARt l → ARt (m.foldl lPut l)
  | [], _, _, _, _, _, h => h
  | a :: m, l, om, rm, ol, sl, rl => by
    have oa := om a (by simp)
    rw [List.foldl_cons, lPut_iput oa ol sl]
    exact foldl_rt m _ (fun x hx => om x (by simp [hx])) (fun x hx => rm x (by simp [hx])) (iput_ok oa ol) (iput_srt oa ol sl) (iput_rt (rm a (by simp)) rl)
theorem lNorm_rt {l : List Am} (ol : AOk l) : ARt (lNorm l) := by
  unfold lNorm
  split
  · rename_i h; exact ((lRight_spec l).1 h).1
  · exact foldl_rt _ [] (ol.filter _) (fun a ha => (List.mem_filter.1 ha).2) (fun a h => (by cases h)) .nil (fun a h => (by cases h))
theorem merge_rt {l m : List Am} (ol : AOk l) (om : AOk m) (hl : Srt l) (hm : Srt m) (rl : ARt l) (rm : ARt m) : ARt (merge l m) := by
  obtain ⟨_, _, hs, hk, _⟩ := merge_spec _ l m (Nat.le_refl _) ol om hl hm
  intro x hx
  have h1 := look_of_mem hs hx
  rw [hk] at h1
  cases h2 : look l x.k with
  | none =>
    rw [h2, none_comb] at h1
    exact rm x (look_mem h1)
  | some v =>
    cases h3 : look m x.k with
    | none => rw [h2, h3, comb_none] at h1; exact rl x (look_mem (h2.trans h1))
    | some u =>
      rw [h2, h3] at h1
      have := rt_more (rl _ (look_mem h2)) (rm _ (look_mem h3)) rfl
      simp only [comb, Option.some.injEq] at h1
      rw [h1] at this
      exact this
theorem lJoin_rt {l m : List Am} (ol : AOk l) (om : AOk m) : ARt (lJoin l m) := merge_rt (lNorm_ok ol) (lNorm_ok om) (lNorm_srt ol) (lNorm_srt om) (lNorm_rt ol) (lNorm_rt om)
theorem rval_rt {l : List Am} (h : ARt l) (hs : Srt l) (k : Ky) : rval l k = look l k := by
  unfold rval
  rw [List.filter_eq_self.2 h, val_srt hs]
theorem lAll_state (ls : List (List Am)) (h : ∀ l ∈ ls, AOk l) : Srt (lAll ls) ∧ ARt (lAll ls) := by
  rw [← List.reverse_reverse ls] at h ⊢
  cases hr : ls.reverse with
  | nil => exact ⟨.nil, fun a h => (by cases h)⟩
  | cons y ys =>
    rw [hr, List.reverse_cons] at h
    rw [List.reverse_cons, lAll_snoc]
    have h1 := (lAll_spec ys.reverse fun x hx => h x (by simp at hx ⊢; exact .inl hx)).1
    have h2 := h y (by simp)
    exact ⟨lJoin_srt h1 h2, lJoin_rt h1 h2⟩
theorem mAll_spec (ls : List (List Am)) (h : ∀ l ∈ ls, AOk l) : AOk (mAll ls) ∧ Dk (mAll ls) ∧ ∀ k, look (mAll ls) k = look (lAll ls) k := by
  rw [← List.reverse_reverse ls] at h ⊢
  generalize ls.reverse = rs at *
  induction rs with
  | nil => exact ⟨fun a h => (by cases h), .nil, fun _ => rfl⟩
  | cons l rs ih =>
    rw [List.reverse_cons] at h ⊢
    obtain ⟨h1, h2, h3⟩ := ih fun x hx => h x (by simp at hx ⊢; exact .inl hx)
    have hl := h l (by simp)
    have e1 : mAll (rs.reverse ++ [l]) = mRow (mAll rs.reverse) l := by simp [mAll, List.foldl_append]
    obtain ⟨s1, s2, s3⟩ := mRow_spec l (mAll rs.reverse) h1 h2 hl
    have ho := lAll_spec rs.reverse fun x hx => h x (by simp at hx ⊢; exact .inl hx)
    rw [e1, lAll_snoc]
    refine ⟨s1, s2, fun k => ?_⟩
    rw [s3, lJoin_look ho.1 hl, h3]
    congr 1
    obtain ⟨t1, t2⟩ := lAll_state rs.reverse fun x hx => h x (by simp at hx ⊢; exact .inl hx)
    exact (rval_rt t2 t1 k).symm
end Go.Proofs.Ythnhlbikfidpnaa
