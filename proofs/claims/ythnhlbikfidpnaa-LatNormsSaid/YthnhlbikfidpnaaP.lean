/- Plain laws of rows of atoms: what a row says of each key; norm, join and all by that. -/
import Derived.Test.YthnhlbikfidpnaaM
namespace Go.Proofs.Ythnhlbikfidpnaa
set_option maxHeartbeats 1000000
/-! ### keys are totally ordered -/
theorem Nm.num_eq (n : Nm) : n.num = ((((((((n.c0 * 256) + n.c1) * 256 + n.c2) * 256 + n.c3) * 256 + n.c4) * 256 + n.c5) * 256 + n.c6) * 256 + n.c7) := by
  simp [Nm.num, Nm.pre, Nm.get]
theorem Nm.num_inj {a b : Nm} (ha : a.ok) (hb : b.ok) (h : a.num = b.num) : a = b := by
  rw [Nm.num_eq, Nm.num_eq] at h
  obtain ⟨a0, a1, a2, a3, a4, a5, a6, a7⟩ := a
  obtain ⟨b0, b1, b2, b3, b4, b5, b6, b7⟩ := b
  unfold Nm.ok at ha hb
  simp only at ha hb h
  have h0 : a0 = b0 := by omega
  subst h0
  have h1 : a1 = b1 := by omega
  subst h1
  have h2 : a2 = b2 := by omega
  subst h2
  have h3 : a3 = b3 := by omega
  subst h3
  have h4 : a4 = b4 := by omega
  subst h4
  have h5 : a5 = b5 := by omega
  subst h5
  have h6 : a6 = b6 := by omega
  subst h6
  have h7 : a7 = b7 := by omega
  subst h7
  rfl
theorem Ky.w_inj {a b : Ky} (ha : a.ok) (hb : b.ok) (h0 : a.w0 = b.w0) (h1 : a.w1 = b.w1) (h2 : a.w2 = b.w2) : a = b := by
  obtain ⟨hs, hc, hi, hr, hq⟩ := ha
  obtain ⟨hs', hc', hi', hr', hq'⟩ := hb
  have hi0 := Nm.num_inj hi hi' h1
  unfold Ky.w0 at h0
  unfold Ky.w2 at h2
  obtain ⟨s, c, i, r, q⟩ := a
  obtain ⟨s', c', i', r', q'⟩ := b
  simp only at *
  have : s = s' := by omega
  have : c = c' := by omega
  have : r = r' := by omega
  have : q = q' := by omega
  subst_vars
  rfl
theorem kLess_iff (a b : Ky) : kLess a b = true ↔ (a.w0 < b.w0 ∨ (a.w0 = b.w0 ∧ (a.w1 < b.w1 ∨ (a.w1 = b.w1 ∧ a.w2 < b.w2)))) := by
  unfold kLess
  by_cases h0 : a.w0 = b.w0
  · by_cases h1 : a.w1 = b.w1
    · rw [if_pos h0, if_pos h1, decide_eq_true_iff]; omega
    · rw [if_pos h0, if_neg h1, decide_eq_true_iff]; omega
  · rw [if_neg h0, decide_eq_true_iff]; omega
theorem kLess_trans {a b c : Ky} (h : kLess a b = true) (h' : kLess b c = true) : kLess a c = true := by
  rw [kLess_iff] at *; omega
theorem kLess_asymm {a b : Ky} (h : kLess a b = true) : kLess b a = false := by
  rw [Bool.eq_false_iff]; intro h'; rw [kLess_iff] at *; omega
theorem kLess_ne {a b : Ky} (h : kLess a b = true) : a ≠ b := by
  rintro rfl; rw [kLess_irr] at h; cases h
theorem kLess_tri {a b : Ky} (ha : a.ok) (hb : b.ok) : kLess a b = true ∨ a = b ∨ kLess b a = true := by
  by_cases h : a = b
  · exact .inr (.inl h)
  · have : ¬ (a.w0 = b.w0 ∧ a.w1 = b.w1 ∧ a.w2 = b.w2) := fun ⟨h0, h1, h2⟩ => h (Ky.w_inj ha hb h0 h1 h2)
    rw [kLess_iff, kLess_iff]
    omega
theorem kLess_of_not {a b : Ky} (ha : a.ok) (hb : b.ok) (hne : a ≠ b) (h : kLess a b = false) : kLess b a = true := by
  rcases kLess_tri ha hb with h' | h' | h'
  · rw [h] at h'; cases h'
  · exact absurd h' hne
  · exact h'
/-! ### what a row says of a key -/
def look : List Am → Ky → Option Vl
  | [], _ => none
  | a :: l, k => if a.k = k then some a.v else look l k
def Srt (l : List Am) : Prop := l.Pairwise fun a b => kLess a.k b.k = true
def AOk (l : List Am) : Prop := ∀ a ∈ l, a.ok
theorem look_cons_eq {a : Am} {l : List Am} {k : Ky} (h : a.k = k) : look (a :: l) k = some a.v := by rw [look, if_pos h]
theorem look_cons_ne {a : Am} {l : List Am} {k : Ky} (h : a.k ≠ k) : look (a :: l) k = look l k := by rw [look, if_neg h]
theorem look_none {l : List Am} {k : Ky} (h : ∀ a ∈ l, a.k ≠ k) : look l k = none := by
  induction l with
  | nil => rfl
  | cons a l ih => rw [look_cons_ne (h a (by simp)), ih fun b hb => h b (by simp [hb])]
theorem look_mem {l : List Am} {k : Ky} {v : Vl} (h : look l k = some v) : ⟨k, v⟩ ∈ l := by
  induction l with
  | nil => cases h
  | cons a l ih =>
    by_cases e : a.k = k
    · rw [look_cons_eq e] at h; injection h with h; subst e h; simp
    · rw [look_cons_ne e] at h; simp [ih h]
theorem look_of_mem {l : List Am} (hs : Srt l) {a : Am} (h : a ∈ l) : look l a.k = some a.v := by
  induction l with
  | nil => cases h
  | cons b l ih =>
    rw [Srt, List.pairwise_cons] at hs
    rcases List.mem_cons.1 h with rfl | h
    · exact look_cons_eq rfl
    · rw [look_cons_ne (kLess_ne (hs.1 a h))]; exact ih hs.2 h
theorem look_head_less {l : List Am} {x k : Ky} (h : ∀ a ∈ l, kLess x a.k = true) (hk : kLess k x = true ∨ k = x) : look l k = none := by
  refine look_none fun a ha e => ?_
  have := h a ha
  rw [e] at this
  rcases hk with hk | rfl
  · rw [kLess_asymm hk] at this; cases this
  · rw [kLess_irr] at this; cases this
/-- Two rising rows that say the same are the same. -/
theorem srt_ext : ∀ {l m : List Am}, AOk l → AOk m → Srt l → Srt m → (∀ k, look l k = look m k) → l = m
  | [], [], _, _, _, _, _ => rfl
  | [], b :: m, _, _, _, _, h => by have := h b.k; rw [look_cons_eq rfl] at this; cases this
  | a :: l, [], _, _, _, _, h => by have := h a.k; rw [look_cons_eq rfl] at this; cases this
  | a :: l, b :: m, ol, om, hl, hm, h => by
    have hl' := hl
    have hm' := hm
    rw [Srt, List.pairwise_cons] at hl hm
    have hk : a.k = b.k := by
      rcases kLess_tri (ol a (by simp)).1 (om b (by simp)).1 with h' | h' | h'
      · have h1 := h a.k
        rw [look_cons_eq rfl, look_cons_ne (kLess_ne h').symm, look_head_less hm.1 (.inl h')] at h1
        cases h1
      · exact h'
      · have h1 := h b.k
        rw [look_cons_eq rfl, look_cons_ne (kLess_ne h').symm, look_head_less hl.1 (.inl h')] at h1
        cases h1
    have hv : a.v = b.v := by
      have h1 := h a.k
      rw [look_cons_eq rfl, look_cons_eq hk.symm] at h1
      injection h1
    have hab : a = b := by cases a; cases b; simp_all
    subst hab
    rw [srt_ext (fun x hx => ol x (by simp [hx])) (fun x hx => om x (by simp [hx])) hl.2 hm.2 fun k => ?_]
    by_cases e : a.k = k
    · rw [look_head_less hl.1 (.inr e.symm), look_head_less hm.1 (.inr e.symm)]
    · have := h k
      rwa [look_cons_ne e, look_cons_ne e] at this
/-! ### the greater of two values -/
theorem vOver_iff (x y : Vl) : vOver x y = true ↔ (y.n < x.n ∨ (x.n = y.n ∧ y.text.num ≤ x.text.num)) := by
  unfold vOver
  split
  · rw [decide_eq_true_iff]; omega
  · rw [decide_eq_true_iff]; omega
theorem vMore_assoc (x y z : Vl) : vMore (vMore x y) z = vMore x (vMore y z) := by
  unfold vMore
  by_cases h1 : vOver x y = true <;> by_cases h2 : vOver y z = true <;> by_cases h3 : vOver x z = true <;> simp only [h1, h2, h3, if_true, if_false, Bool.false_eq_true]
  all_goals (try rw [vOver_iff] at h1 h2 h3)
  all_goals first | rfl | (exfalso; omega)
def comb : Option Vl → Option Vl → Option Vl
  | none, y => y
  | some x, none => some x
  | some x, some y => some (vMore x y)
theorem comb_none (x : Option Vl) : comb x none = x := by cases x <;> rfl
theorem none_comb (x : Option Vl) : comb none x = x := rfl
theorem comb_assoc (x y z : Option Vl) : comb (comb x y) z = comb x (comb y z) := by
  cases x with
  | none => rfl
  | some x => cases y with
    | none => rfl
    | some y => cases z with
      | none => rfl
      | some z => simp only [comb, vMore_assoc]
/-- What the atoms of a row, one behind the other, say of a key. -/
def val (l : List Am) (k : Ky) : Option Vl := l.foldl (fun o a => if a.k = k then comb o (some a.v) else o) none
theorem val_foldl (l : List Am) (k : Ky) : ∀ o, l.foldl (fun o a => if a.k = k then comb o (some a.v) else o) o = comb o (val l k) := by
  unfold val
  induction l with
  | nil => intro o; rw [List.foldl_nil, List.foldl_nil, comb_none]
  | cons a l ih =>
    intro o
    rw [List.foldl_cons, List.foldl_cons, ih, ih (if a.k = k then comb none (some a.v) else none)]
    split
    · rw [none_comb, comb_assoc]
    · rw [none_comb]
theorem val_nil (k : Ky) : val [] k = none := rfl
theorem val_cons (a : Am) (l : List Am) (k : Ky) : val (a :: l) k = if a.k = k then comb (some a.v) (val l k) else val l k := by
  show List.foldl _ _ _ = _
  rw [List.foldl_cons, val_foldl]
  split
  · rw [none_comb]
  · rw [none_comb]
theorem val_append (l m : List Am) (k : Ky) : val (l ++ m) k = comb (val l k) (val m k) := by
  show List.foldl _ _ _ = _
  rw [List.foldl_append]
  exact val_foldl m k _
theorem val_one (a : Am) (k : Ky) : val [a] k = if a.k = k then some a.v else none := by
  rw [val_cons, val_nil, comb_none]
theorem val_srt {l : List Am} (hs : Srt l) (k : Ky) : val l k = look l k := by
  induction l with
  | nil => rfl
  | cons a l ih =>
    have hs' := hs
    rw [Srt, List.pairwise_cons] at hs
    rw [val_cons, ih hs.2]
    by_cases e : a.k = k
    · rw [if_pos e, look_cons_eq e, look_head_less hs.1 (.inr e.symm), comb_none]
    · rw [if_neg e, look_cons_ne e]
/-! ### put -/
theorem putAll_snoc (a : Am) (l : List Am) (x : Am) : putAll a (l ++ [x]) = putStep a (putAll a l) x := by simp [putAll, List.foldl_append]
/-- The plain put. -/
def iput (a : Am) : List Am → List Am
  | [] => [a]
  | x :: l => if x.k = a.k then ⟨a.k, vMore x.v a.v⟩ :: l else if kLess a.k x.k then a :: x :: l else x :: iput a l
theorem putAll_done (a : Am) : ∀ (m : List Am) (o : List Am), (∀ x ∈ m, x.k ≠ a.k) → m.foldl (putStep a) (o, true) = (o ++ m, true)
  | [], o, _ => by simp
  | x :: m, o, h => by
    rw [List.foldl_cons]
    have : putStep a (o, true) x = (o ++ [x], true) := by
      unfold putStep
      rw [if_neg (h x (by simp))]
      simp
    rw [this, putAll_done a m _ fun y hy => h y (by simp [hy]), List.append_assoc]
    rfl
theorem putAll_iput (a : Am) (oa : a.ok) : ∀ (m : List Am) (o : List Am), AOk m → Srt m →
    (if (m.foldl (putStep a) (o, false)).2 then (m.foldl (putStep a) (o, false)).1 else (m.foldl (putStep a) (o, false)).1 ++ [a]) = o ++ iput a m
  | [], o, _, _ => by simp [iput]
  | x :: m, o, om, hs => by
    rw [Srt, List.pairwise_cons] at hs
    rw [List.foldl_cons, iput]
    by_cases h : x.k = a.k
    · have : putStep a (o, false) x = (o ++ [⟨a.k, vMore x.v a.v⟩], true) := by unfold putStep; rw [if_pos h]
      rw [this, if_pos h, putAll_done a m _ fun y hy => by rw [← h]; exact (kLess_ne (hs.1 y hy)).symm]
      simp
    · by_cases h2 : kLess a.k x.k = true
      · have : putStep a (o, false) x = (o ++ [a, x], true) := by unfold putStep; rw [if_neg h]; simp [h2]
        rw [this, if_neg h, if_pos h2, putAll_done a m _ fun y hy => (kLess_ne (kLess_trans h2 (hs.1 y hy))).symm]
        simp
      · have : putStep a (o, false) x = (o ++ [x], false) := by unfold putStep; rw [if_neg h]; simp [h2]
        rw [this, if_neg h, if_neg h2, putAll_iput a oa m _ (fun y hy => om y (by simp [hy])) hs.2]
        simp
theorem lPut_iput {l : List Am} {a : Am} (oa : a.ok) (ol : AOk l) (hs : Srt l) : lPut l a = iput a l := by
  have := putAll_iput a oa l [] ol hs
  rw [List.nil_append] at this
  exact this
theorem iput_mem {a : Am} {l : List Am} {x : Am} (h : x ∈ iput a l) : x ∈ l ∨ x = a ∨ ∃ y ∈ l, y.k = a.k ∧ x = ⟨a.k, vMore y.v a.v⟩ := by
  induction l with
  | nil => rw [iput, List.mem_singleton] at h; exact .inr (.inl h)
  | cons y l ih =>
    rw [iput] at h
    split at h
    · rename_i hk
      rcases List.mem_cons.1 h with rfl | h
      · exact .inr (.inr ⟨y, by simp, hk, rfl⟩)
      · exact .inl (by simp [h])
    · split at h
      · rcases List.mem_cons.1 h with rfl | h
        · exact .inr (.inl rfl)
        · exact .inl h
      · rcases List.mem_cons.1 h with rfl | h
        · exact .inl (by simp)
        · rcases ih h with h | h | ⟨z, hz, h⟩
          · exact .inl (by simp [h])
          · exact .inr (.inl h)
          · exact .inr (.inr ⟨z, by simp [hz], h⟩)
theorem vMore_or (x y : Vl) : vMore x y = x ∨ vMore x y = y := by unfold vMore; split <;> simp
theorem vMore_ok {x y : Vl} (hx : x.ok) (hy : y.ok) : (vMore x y).ok := by rcases vMore_or x y with h | h <;> rw [h] <;> assumption
theorem iput_ok {a : Am} {l : List Am} (oa : a.ok) (ol : AOk l) : AOk (iput a l) := by
  intro x hx
  rcases iput_mem hx with h | rfl | ⟨y, hy, _, rfl⟩
  · exact ol x h
  · exact oa
  · exact ⟨oa.1, vMore_ok (ol y hy).2 oa.2⟩
theorem iput_key {a : Am} {l : List Am} {x : Am} (h : x ∈ iput a l) : x.k = a.k ∨ ∃ y ∈ l, x.k = y.k := by
  rcases iput_mem h with h | rfl | ⟨y, hy, hk, rfl⟩
  · exact .inr ⟨x, h, rfl⟩
  · exact .inl rfl
  · exact .inl rfl
theorem iput_srt {a : Am} {l : List Am} (oa : a.ok) (ol : AOk l) (hs : Srt l) : Srt (iput a l) := by
  induction l with
  | nil => simp [iput, Srt]
  | cons y l ih =>
    have hs0 := hs
    rw [Srt, List.pairwise_cons] at hs
    rw [iput]
    split
    · rename_i hk
      rw [Srt, List.pairwise_cons]
      exact ⟨fun x hx => by show kLess a.k x.k = true; rw [← hk]; exact hs.1 x hx, hs.2⟩
    · rename_i hk
      split
      · rename_i hl
        rw [Srt, List.pairwise_cons]
        refine ⟨fun x hx => ?_, hs0⟩
        rcases List.mem_cons.1 hx with rfl | hx
        · exact hl
        · exact kLess_trans hl (hs.1 x hx)
      · rename_i hl
        rw [Srt, List.pairwise_cons]
        refine ⟨fun x hx => ?_, ih (fun z hz => ol z (by simp [hz])) hs.2⟩
        rcases iput_key hx with h | ⟨z, hz, h⟩
        · rw [h]
          exact kLess_of_not oa.1 (ol y (by simp)).1 (fun e => hk e.symm) (by simpa using hl)
        · rw [h]; exact hs.1 z hz
theorem iput_look {a : Am} {l : List Am} (hs : Srt l) (k : Ky) : look (iput a l) k = comb (look l k) (if a.k = k then some a.v else none) := by
  induction l with
  | nil =>
    by_cases e : a.k = k
    · rw [iput, look_cons_eq e, if_pos e]; rfl
    · rw [iput, look_cons_ne e, if_neg e]; rfl
  | cons y l ih =>
    rw [Srt, List.pairwise_cons] at hs
    rw [iput]
    split
    · rename_i hk
      by_cases e : a.k = k
      · rw [look_cons_eq (a := ⟨a.k, vMore y.v a.v⟩) e, look_cons_eq (hk.trans e), if_pos e]; rfl
      · rw [look_cons_ne (a := ⟨a.k, vMore y.v a.v⟩) e, look_cons_ne (fun h => e (hk.symm.trans h)), if_neg e, comb_none]
    · rename_i hk
      split
      · rename_i hl
        by_cases e : a.k = k
        · rw [look_cons_eq e, if_pos e, look_none, none_comb]
          intro x hx h
          rcases List.mem_cons.1 hx with rfl | hx
          · exact hk (h.trans e.symm)
          · exact kLess_ne (kLess_trans hl (hs.1 x hx)) (e.trans h.symm)
        · rw [look_cons_ne e, if_neg e, comb_none]
      · by_cases e : y.k = k
        · rw [look_cons_eq e, look_cons_eq e, if_neg (fun h => hk (e.trans h.symm)), comb_none]
        · rw [look_cons_ne e, look_cons_ne e, ih hs.2]
/-! ### norm -/
def lNorm (l : List Am) : List Am := if lRight l then l else (l.filter Am.right).foldl lPut []
theorem lRight_spec (l : List Am) : lRight l = true ↔ (∀ a ∈ l, a.right = true) ∧ Srt l := by
  unfold lRight
  rw [allB_true]
  constructor
  · intro h
    refine ⟨fun a ha => ?_, ?_⟩
    · obtain ⟨i, hi, rfl⟩ := List.getElem_of_mem ha
      have := h i hi
      cases i with
      | zero => rwa [okAt_zero (List.getElem?_eq_getElem hi)] at this
      | succ j =>
        rw [okAt_succ (List.getElem?_eq_getElem (by omega)) (List.getElem?_eq_getElem hi), Bool.and_eq_true] at this
        exact this.1
    · rw [Srt, List.pairwise_iff_getElem]
      intro i j hi hj hij
      obtain ⟨d, rfl⟩ : ∃ d, j = i + 1 + d := ⟨j - (i + 1), by omega⟩
      induction d with
      | zero =>
        have := h (i + 1) hj
        rw [okAt_succ (List.getElem?_eq_getElem (by omega)) (List.getElem?_eq_getElem (by omega)), Bool.and_eq_true] at this
        exact this.2
      | succ d ih =>
        have := h (i + 1 + d + 1) (by omega)
        rw [okAt_succ (List.getElem?_eq_getElem (by omega)) (List.getElem?_eq_getElem (by omega)), Bool.and_eq_true] at this
        exact kLess_trans (ih (by omega) (by omega)) this.2
  · rintro ⟨h1, h2⟩ j hj
    rw [Srt, List.pairwise_iff_getElem] at h2
    cases j with
    | zero => rw [okAt_zero (List.getElem?_eq_getElem hj)]; exact h1 _ (List.getElem_mem hj)
    | succ j =>
      rw [okAt_succ (List.getElem?_eq_getElem (by omega)) (List.getElem?_eq_getElem hj), Bool.and_eq_true]
      exact ⟨h1 _ (List.getElem_mem hj), h2 j (j + 1) (by omega) hj (by omega)⟩
theorem foldl_lPut : ∀ (m l : List Am), AOk m → AOk l → Srt l → AOk (m.foldl lPut l) ∧ Srt (m.foldl lPut l) ∧ ∀ k, look (m.foldl lPut l) k = comb (look l k) (val m k)
  | [], l, _, ol, hs => ⟨ol, hs, fun k => by rw [List.foldl_nil, val_nil, comb_none]⟩
  | a :: m, l, om, ol, hs => by
    have oa := om a (by simp)
    rw [List.foldl_cons, lPut_iput oa ol hs]
    obtain ⟨h1, h2, h3⟩ := foldl_lPut m (iput a l) (fun x hx => om x (by simp [hx])) (iput_ok oa ol) (iput_srt oa ol hs)
    refine ⟨h1, h2, fun k => ?_⟩
    rw [h3, iput_look hs, val_cons, comb_assoc]
    split
    · rfl
    · rw [none_comb]
theorem AOk.filter {l : List Am} (h : AOk l) (p : Am → Bool) : AOk (l.filter p) := fun a ha => h a (List.mem_filter.1 ha).1
/-- What the right atoms of a row say of a key. -/
def rval (l : List Am) (k : Ky) : Option Vl := val (l.filter Am.right) k
theorem lNorm_ok {l : List Am} (ol : AOk l) : AOk (lNorm l) := by
  unfold lNorm
  split
  · exact ol
  · exact (foldl_lPut _ [] (ol.filter _) (fun a h => by cases h) .nil).1
theorem lNorm_srt {l : List Am} (ol : AOk l) : Srt (lNorm l) := by
  unfold lNorm
  split
  · rename_i h; exact ((lRight_spec l).1 h).2
  · exact (foldl_lPut _ [] (ol.filter _) (fun a h => by cases h) .nil).2.1
theorem lNorm_look {l : List Am} (ol : AOk l) (k : Ky) : look (lNorm l) k = rval l k := by
  unfold lNorm rval
  split
  · rename_i h
    obtain ⟨h1, h2⟩ := (lRight_spec l).1 h
    rw [List.filter_eq_self.2 h1, val_srt h2]
  · rw [(foldl_lPut _ [] (ol.filter _) (fun a h => by cases h) .nil).2.2]
    rfl
/-! ### join -/
def merge : List Am → List Am → List Am
  | [], m => m
  | l, [] => l
  | a :: l, b :: m => if kLess a.k b.k then a :: merge l (b :: m) else if kLess b.k a.k then b :: merge (a :: l) m else ⟨a.k, vMore a.v b.v⟩ :: merge l m
termination_by l m => l.length + m.length
theorem merge_nil (l : List Am) : merge l [] = l := by cases l <;> simp [merge]
theorem nil_merge (l : List Am) : merge [] l = l := by cases l <;> simp [merge]
theorem merge_lt {a b : Am} {l m : List Am} (h : kLess a.k b.k = true) : merge (a :: l) (b :: m) = a :: merge l (b :: m) := by rw [merge, if_pos h]
theorem merge_gt {a b : Am} {l m : List Am} (h : kLess b.k a.k = true) : merge (a :: l) (b :: m) = b :: merge (a :: l) m := by
  rw [merge, if_neg (by rw [kLess_asymm h]; simp), if_pos h]
theorem merge_eq {a b : Am} {l m : List Am} (h : kLess a.k b.k = false) (h' : kLess b.k a.k = false) : merge (a :: l) (b :: m) = ⟨a.k, vMore a.v b.v⟩ :: merge l m := by
  rw [merge, if_neg (by rw [h]; simp), if_neg (by rw [h']; simp)]
theorem merge_spec : ∀ (n : Nat) (l m : List Am), l.length + m.length ≤ n → AOk l → AOk m → Srt l → Srt m →
    AOk (merge l m) ∧ (∀ x ∈ merge l m, (∃ y ∈ l, x.k = y.k) ∨ (∃ y ∈ m, x.k = y.k)) ∧ Srt (merge l m) ∧ (∀ k, look (merge l m) k = comb (look l k) (look m k)) ∧ (merge l m).length ≤ l.length + m.length := by
  intro n
  induction n with
  | zero =>
    intro l m h ol om hl hm
    obtain rfl : l = [] := List.eq_nil_of_length_eq_zero (by omega)
    rw [nil_merge]
    exact ⟨om, fun x hx => .inr ⟨x, hx, rfl⟩, hm, fun k => rfl, by simp⟩
  | succ n ih =>
    intro l m h ol om hl hm
    cases l with
    | nil =>
      rw [nil_merge]
      exact ⟨om, fun x hx => .inr ⟨x, hx, rfl⟩, hm, fun k => rfl, by simp⟩
    | cons a l =>
      cases m with
      | nil =>
        rw [merge_nil]
        exact ⟨ol, fun x hx => .inl ⟨x, hx, rfl⟩, hl, fun k => by rw [show look [] k = none from rfl, comb_none], by simp⟩
      | cons b m =>
        have hl0 := hl
        have hm0 := hm
        rw [Srt, List.pairwise_cons] at hl hm
        simp only [List.length_cons] at h
        have ol' : AOk l := fun x hx => ol x (by simp [hx])
        have om' : AOk m := fun x hx => om x (by simp [hx])
        cases h1 : kLess a.k b.k with
        | true =>
          obtain ⟨i1, i2, i3, i4, i5⟩ := ih l (b :: m) (by simp; omega) ol' om hl.2 hm0
          rw [merge_lt h1]
          refine ⟨fun x hx => ?_, fun x hx => ?_, ?_, fun k => ?_, by simp at i5 ⊢; omega⟩
          · rcases List.mem_cons.1 hx with rfl | hx
            · exact ol _ (by simp)
            · exact i1 x hx
          · rcases List.mem_cons.1 hx with rfl | hx
            · exact .inl ⟨_, by simp, rfl⟩
            · rcases i2 x hx with ⟨y, hy, e⟩ | ⟨y, hy, e⟩
              · exact .inl ⟨y, by simp [hy], e⟩
              · exact .inr ⟨y, hy, e⟩
          · rw [Srt, List.pairwise_cons]
            refine ⟨fun x hx => ?_, i3⟩
            rcases i2 x hx with ⟨y, hy, e⟩ | ⟨y, hy, e⟩
            · rw [e]; exact hl.1 y hy
            · rw [e]
              rcases List.mem_cons.1 hy with rfl | hy
              · exact h1
              · exact kLess_trans h1 (hm.1 y hy)
          · by_cases e : a.k = k
            · rw [look_cons_eq e, look_cons_eq e, look_none (l := b :: m), comb_none]
              intro y hy e'
              rcases List.mem_cons.1 hy with rfl | hy
              · exact kLess_ne h1 (e.trans e'.symm)
              · exact kLess_ne (kLess_trans h1 (hm.1 y hy)) (e.trans e'.symm)
            · rw [look_cons_ne e, look_cons_ne e, i4]
        | false =>
          cases h2 : kLess b.k a.k with
          | true =>
            obtain ⟨i1, i2, i3, i4, i5⟩ := ih (a :: l) m (by simp; omega) ol om' hl0 hm.2
            rw [merge_gt h2]
            refine ⟨fun x hx => ?_, fun x hx => ?_, ?_, fun k => ?_, by simp at i5 ⊢; omega⟩
            · rcases List.mem_cons.1 hx with rfl | hx
              · exact om _ (by simp)
              · exact i1 x hx
            · rcases List.mem_cons.1 hx with rfl | hx
              · exact .inr ⟨_, by simp, rfl⟩
              · rcases i2 x hx with ⟨y, hy, e⟩ | ⟨y, hy, e⟩
                · exact .inl ⟨y, hy, e⟩
                · exact .inr ⟨y, by simp [hy], e⟩
            · rw [Srt, List.pairwise_cons]
              refine ⟨fun x hx => ?_, i3⟩
              rcases i2 x hx with ⟨y, hy, e⟩ | ⟨y, hy, e⟩
              · rw [e]
                rcases List.mem_cons.1 hy with rfl | hy
                · exact h2
                · exact kLess_trans h2 (hl.1 y hy)
              · rw [e]; exact hm.1 y hy
            · by_cases e : b.k = k
              · rw [look_cons_eq e, look_cons_eq e, look_none (l := a :: l), none_comb]
                intro y hy e'
                rcases List.mem_cons.1 hy with rfl | hy
                · exact kLess_ne h2 (e.trans e'.symm)
                · exact kLess_ne (kLess_trans h2 (hl.1 y hy)) (e.trans e'.symm)
              · rw [look_cons_ne e, look_cons_ne e, i4]
          | false =>
            have hk : a.k = b.k := by
              rcases kLess_tri (ol a (by simp)).1 (om b (by simp)).1 with h' | h' | h'
              · rw [h1] at h'; cases h'
              · exact h'
              · rw [h2] at h'; cases h'
            obtain ⟨i1, i2, i3, i4, i5⟩ := ih l m (by omega) ol' om' hl.2 hm.2
            rw [merge_eq h1 h2]
            refine ⟨fun x hx => ?_, fun x hx => ?_, ?_, fun k => ?_, by simp at i5 ⊢; omega⟩
            · rcases List.mem_cons.1 hx with rfl | hx
              · exact ⟨(ol a (by simp)).1, vMore_ok (ol a (by simp)).2 (om b (by simp)).2⟩
              · exact i1 x hx
            · rcases List.mem_cons.1 hx with rfl | hx
              · exact .inl ⟨a, by simp, rfl⟩
              · rcases i2 x hx with ⟨y, hy, e⟩ | ⟨y, hy, e⟩
                · exact .inl ⟨y, by simp [hy], e⟩
                · exact .inr ⟨y, by simp [hy], e⟩
            · rw [Srt, List.pairwise_cons]
              refine ⟨fun x hx => ?_, i3⟩
              rcases i2 x hx with ⟨y, hy, e⟩ | ⟨y, hy, e⟩
              · rw [e]; exact hl.1 y hy
              · rw [e]; show kLess a.k y.k = true; rw [hk]; exact hm.1 y hy
            · by_cases e : a.k = k
              · rw [look_cons_eq (a := ⟨a.k, vMore a.v b.v⟩) e, look_cons_eq e, look_cons_eq (hk.symm.trans e)]; rfl
              · rw [look_cons_ne (a := ⟨a.k, vMore a.v b.v⟩) e, look_cons_ne e, look_cons_ne (fun h => e (hk.trans h)), i4]
def lJoin (l m : List Am) : List Am := merge (lNorm l) (lNorm m)
theorem lJoin_ok {l m : List Am} (ol : AOk l) (om : AOk m) : AOk (lJoin l m) := (merge_spec _ _ _ (Nat.le_refl _) (lNorm_ok ol) (lNorm_ok om) (lNorm_srt ol) (lNorm_srt om)).1
theorem lJoin_srt {l m : List Am} (ol : AOk l) (om : AOk m) : Srt (lJoin l m) := (merge_spec _ _ _ (Nat.le_refl _) (lNorm_ok ol) (lNorm_ok om) (lNorm_srt ol) (lNorm_srt om)).2.2.1
theorem lJoin_look {l m : List Am} (ol : AOk l) (om : AOk m) (k : Ky) : look (lJoin l m) k = comb (rval l k) (rval m k) := by
  rw [← lNorm_look ol, ← lNorm_look om]
  exact (merge_spec _ _ _ (Nat.le_refl _) (lNorm_ok ol) (lNorm_ok om) (lNorm_srt ol) (lNorm_srt om)).2.2.2.1 k
/-- All its atoms are right. -/
def ARt (l : List Am) : Prop := ∀ a ∈ l, a.right = true
end Go.Proofs.Ythnhlbikfidpnaa
