/- Maps from keys to values: made, asked, written, ranged over. -/
import Derived.Test.YthnhlbikfidpnaaU
import Derived.Maps.RangeRun
namespace Go.Proofs.Ythnhlbikfidpnaa
open Go.RowKit
open Go.ChangeMaps (setBlock)
set_option maxHeartbeats 1000000
set_option maxRecDepth 100000
theorem und103 : Try.prog.underlying 103 = some (.map 63 65) := by kernel_rfl
theorem check63 (e : Bool) (k : Ky) (w : World) : (Instr.checkKey e 10000 63 (.agg (encK k))).run Try.prog w = .ok () w := by kernel_rfl
theorem zero65 (w : World) : (zeroValue 65).run Try.prog w = .ok (.agg (encV vl0)) w := by kernel_rfl
def entsFrom : List Am → Nat → List MapEntry
  | [], _ => []
  | a :: l, i => { key := .agg (encK a.k), val := .agg (encV a.v), born := i } :: entsFrom l (i + 1)
/-- Block b is a map that holds the atoms m, in the order in which their keys came. -/
def MapB (w : World) (b : Nat) (m : List Am) : Prop := w.heap[b]? = some (.map (entsFrom m 0).toArray m.length)
def findI : List Am → Ky → Nat → Option (Nat × Value)
  | [], _, _ => none
  | a :: l, k, j => if k = a.k then some (j, .agg (encV a.v)) else findI l k (j + 1)
theorem findAsk (k : Ky) (w : World) : ∀ (m : List Am) (i j : Nat), (Instr.findAsking 63 (.agg (encK k)) (entsFrom m i) j).run Try.prog w = .ok (findI m k j) w
  | [], _, _ => rfl
  | a :: l, i, j => by
    have he : (Op.equal 63 (.agg (encK k)) (.agg (encK a.k))).run Try.prog w = .ok (decide (k = a.k)) w := equalIn63 9997 k a.k w
    show (Instr.findAsking 63 (.agg (encK k)) ({ key := .agg (encK a.k), val := .agg (encV a.v), born := i } :: entsFrom l (i + 1)) j).run Try.prog w = _
    unfold Instr.findAsking
    rw [Sem.run_bind, he, Result.andThen_ok]
    by_cases h : k = a.k
    · rw [findI, if_pos h, decide_eq_true h]; rfl
    · rw [findI, if_neg h, decide_eq_false h]
      exact findAsk k w l (i + 1) (j + 1)
theorem findKey63 (k : Ky) (w : World) (m : List Am) : (Instr.findKey 63 (.agg (encK k)) (entsFrom m 0)).run Try.prog w = .ok (findI m k 0) w := by
  obtain ⟨fs, hu⟩ : ∃ fs, Try.prog.underlying 63 = some (.struct fs) := ⟨_, Try.underlying63⟩
  unfold Instr.findKey
  rw [Sem.run_bind, run_underlying hu, Result.andThen_ok]
  cases m with
  | nil => rfl
  | cons a l =>
    have : Instr.findNow (.struct fs) (.agg (encK k)) (entsFrom (a :: l) 0) 0 = none := rfl
    rw [this]
    exact findAsk k w (a :: l) 0 0
theorem findI_look : ∀ (m : List Am) (k : Ky) (j : Nat), (findI m k j).map (·.2) = (look m k).map fun v => .agg (encV v)
  | [], _, _ => rfl
  | a :: l, k, j => by
    by_cases h : a.k = k
    · rw [findI, if_pos h.symm, look_cons_eq h]; rfl
    · rw [findI, if_neg (fun e => h e.symm), look_cons_ne h, findI_look l k (j + 1)]
theorem run_lookup103 (w : World) (b : Nat) (m : List Am) (hb : MapB w b m) (k : Ky) :
    (Instr.lookup 103 (.map (some b)) (.agg (encK k)) true).run Try.prog w = .ok (.tuple #[.agg (encV (lookV m k).1), .bool (lookV m k).2]) w := by
  unfold Instr.lookup
  rw [Sem.run_bind, run_underlying und103, Result.andThen_ok]
  simp only [Sem.run_bind, MapKept.run_getObj_map hb, Result.andThen_ok, Sem.run_pure, check63, findKey63]
  have h := findI_look m k 0
  cases hf : findI m k 0 with
  | none =>
    rw [hf] at h
    have hl : look m k = none := by cases hl : look m k with | none => rfl | some v => rw [hl] at h; cases h
    rw [lookV_none hl]
    simp only [Sem.run_bind, zero65, Result.andThen_ok, Sem.run_pure, if_true]
  | some p =>
    obtain ⟨i, v⟩ := p
    rw [hf] at h
    cases hl : look m k with
    | none => rw [hl] at h; cases h
    | some u =>
      rw [hl] at h
      simp only [Option.map_some, Option.some.injEq] at h
      rw [lookV_some hl]
      simp only [Sem.run_bind, Sem.run_pure, Result.andThen_ok, if_true, h]
/-- A key's value laid into a map. -/
def mSet : List Am → Ky → Vl → List Am
  | [], k, v => [⟨k, v⟩]
  | a :: l, k, v => if k = a.k then ⟨k, v⟩ :: l else a :: mSet l k v
theorem sameBits_K (k : Ky) : Instr.sameBits 10000 (.agg (encK k)) (.agg (encK k)) = true := by
  show (Array.size _ == Array.size _ && _) = true
  simp [Instr.sameBits]
theorem keyStays (k : Ky) (w : World) : (Instr.keyThatStays (.agg (encK k)) (.agg (encK k))).run Try.prog w = .ok (.agg (encK k)) w := by
  unfold Instr.keyThatStays
  rw [sameBits_K, if_pos rfl]
  rfl
theorem ents_get : ∀ (m : List Am) (i j : Nat), (entsFrom m i)[j]? = (m[j]?).map fun a => { key := .agg (encK a.k), val := .agg (encV a.v), born := i + j }
  | [], _, _ => by simp [entsFrom]
  | a :: l, i, 0 => by simp [entsFrom]
  | a :: l, i, j + 1 => by
    show (_ :: entsFrom l (i + 1))[j + 1]? = _
    rw [List.getElem?_cons_succ, List.getElem?_cons_succ, ents_get l (i + 1) j]
    congr 1
    funext x
    rw [show i + 1 + j = i + (j + 1) by omega]
theorem ents_len : ∀ (m : List Am) (i : Nat), (entsFrom m i).length = m.length
  | [], _ => rfl
  | a :: l, i => by rw [entsFrom, List.length_cons, ents_len l, List.length_cons]
theorem findI_some : ∀ (m : List Am) (k : Ky) (j i : Nat) (v : Value), findI m k j = some (i, v) → ∃ d a, i = j + d ∧ m[d]? = some a ∧ a.k = k ∧ ∀ u, mSet m k u = m.set d ⟨k, u⟩
  | [], _, _, _, _, h => by cases h
  | a :: l, k, j, i, v, h => by
    by_cases e : k = a.k
    · rw [findI, if_pos e] at h
      injection h with h; injection h with h1 h2
      exact ⟨0, a, by omega, rfl, e.symm, fun u => by rw [mSet, if_pos e]; rfl⟩
    · rw [findI, if_neg e] at h
      obtain ⟨d, a', h1, h2, h3, h4⟩ := findI_some l k (j + 1) i v h
      exact ⟨d + 1, a', by omega, by simpa using h2, h3, fun u => by rw [mSet, if_neg e, h4]; rfl⟩
theorem findI_none : ∀ (m : List Am) (k : Ky) (j : Nat), findI m k j = none → ∀ u, mSet m k u = m ++ [⟨k, u⟩]
  | [], _, _, _, _ => rfl
  | a :: l, k, j, h, u => by
    by_cases e : k = a.k
    · rw [findI, if_pos e] at h; cases h
    · rw [findI, if_neg e] at h
      rw [mSet, if_neg e, findI_none l k (j + 1) h]; rfl
theorem ents_snoc : ∀ (m : List Am) (i : Nat) (a : Am), entsFrom (m ++ [a]) i = entsFrom m i ++ [{ key := .agg (encK a.k), val := .agg (encV a.v), born := i + m.length }]
  | [], _, _ => rfl
  | b :: l, i, a => by
    rw [List.cons_append, entsFrom, ents_snoc l (i + 1) a, entsFrom, List.length_cons, show i + 1 + l.length = i + (l.length + 1) by omega]; rfl
theorem ents_set (m : List Am) (d : Nat) (k : Ky) (u : Vl) (a : Am) (h : m[d]? = some a) :
    (entsFrom m 0).toArray.modify d (fun e => { e with key := .agg (encK k), val := .agg (encV u) }) = (entsFrom (m.set d ⟨k, u⟩) 0).toArray := by
  apply Array.ext_getElem?
  intro j
  rw [Array.getElem?_modify, List.getElem?_toArray, List.getElem?_toArray, ents_get, ents_get, List.getElem?_set]
  by_cases e : d = j
  · subst e
    rw [if_pos rfl, if_pos rfl, h]
    have : d < m.length := (List.getElem?_eq_some_iff.1 h).1
    rw [if_pos this]
    rfl
  · rw [if_neg e, if_neg e]
theorem run_mapUpdate103 (w : World) (b : Nat) (m : List Am) (hb : MapB w b m) (k : Ky) (v : Vl) :
    (Instr.mapUpdate 103 (.map (some b)) (.agg (encK k)) (.agg (encV v))).run Try.prog w = .ok () (setBlock w b (.map (entsFrom (mSet m k v) 0).toArray (mSet m k v).length)) := by
  unfold Instr.mapUpdate
  rw [Sem.run_bind, run_underlying und103, Result.andThen_ok]
  simp only [Sem.run_bind, MapKept.run_getObj_map hb, Result.andThen_ok, check63, findKey63]
  cases hf : findI m k 0 with
  | none =>
    have hs := findI_none m k 0 hf v
    simp only [MapKept.run_setObj_map _ hb]
    rw [hs, ents_snoc]
    simp [setBlock]
  | some p =>
    obtain ⟨i, u⟩ := p
    obtain ⟨d, a, hi, hd, hk, hs⟩ := findI_some m k 0 i u hf
    obtain rfl : i = d := by omega
    have hg : ((entsFrom m 0).toArray[i]?.map (·.key)).getD (.agg (encK k)) = .agg (encK k) := by
      rw [List.getElem?_toArray, ents_get, hd]
      simp only [Option.map_some, Option.getD_some, hk]
    simp only [hg, Sem.run_bind, keyStays, Result.andThen_ok, MapKept.run_setObj_map _ hb]
    rw [ents_set m i k v a hd, hs, List.length_set]
    rfl
theorem mSet_look (m : List Am) (k : Ky) (v : Vl) (q : Ky) : look (mSet m k v) q = if k = q then some v else look m q := by
  induction m with
  | nil =>
    by_cases e : k = q
    · rw [mSet, look_cons_eq (a := ⟨k, v⟩) e, if_pos e]
    · rw [mSet, look_cons_ne (a := ⟨k, v⟩) e, if_neg e]
  | cons a l ih =>
    by_cases h : k = a.k
    · rw [mSet, if_pos h]
      by_cases e : k = q
      · rw [look_cons_eq (a := ⟨k, v⟩) e, if_pos e]
      · rw [look_cons_ne (a := ⟨k, v⟩) e, if_neg e, look_cons_ne (fun h' => e (h.trans h'))]
    · rw [mSet, if_neg h]
      by_cases e : a.k = q
      · rw [look_cons_eq e, look_cons_eq e, if_neg (fun h' => h (h'.trans e.symm))]
      · rw [look_cons_ne e, look_cons_ne e, ih]
/-- No key twice. -/
def Dk (m : List Am) : Prop := m.Pairwise fun a b => a.k ≠ b.k
theorem mSet_mem {m : List Am} {k : Ky} {v : Vl} {x : Am} (h : x ∈ mSet m k v) : x ∈ m ∨ x = ⟨k, v⟩ := by
  induction m with
  | nil => simp [mSet] at h; exact .inr h
  | cons a l ih =>
    rw [mSet] at h
    split at h
    · rcases List.mem_cons.1 h with h | h
      · exact .inr h
      · exact .inl (by simp [h])
    · rcases List.mem_cons.1 h with h | h
      · exact .inl (by simp [h])
      · rcases ih h with h | h
        · exact .inl (by simp [h])
        · exact .inr h
theorem mSet_dk {m : List Am} (h : Dk m) (k : Ky) (v : Vl) : Dk (mSet m k v) := by
  induction m with
  | nil => simp [mSet, Dk]
  | cons a l ih =>
    rw [Dk, List.pairwise_cons] at h
    rw [mSet]
    split
    · rename_i e
      rw [Dk, List.pairwise_cons]
      exact ⟨fun x hx => by show k ≠ x.k; rw [e]; exact h.1 x hx, h.2⟩
    · rename_i e
      rw [Dk, List.pairwise_cons]
      refine ⟨fun x hx => ?_, ih h.2⟩
      rcases mSet_mem hx with hx | rfl
      · exact h.1 x hx
      · exact fun e' => e e'.symm
theorem mSet_len (m : List Am) (k : Ky) (v : Vl) : (mSet m k v).length ≤ m.length + 1 := by
  induction m with
  | nil => simp [mSet]
  | cons a l ih =>
    rw [mSet]
    split
    · simp
    · simp; exact ih
theorem MapB.below {B : Nat} {w w' : World} {b : Nat} {m : List Am} (h : MapB w b m) (hb : Below B w w') (hB : b < B) : MapB w' b m := (hb.block b hB).trans h
theorem MapB.lt {w : World} {b : Nat} {m : List Am} (h : MapB w b m) : b < w.heap.size := by
  rcases Nat.lt_or_ge b w.heap.size with hl | hl
  · exact hl
  · unfold MapB at h; rw [Array.getElem?_eq_none hl] at h; cases h
theorem MapB.ext {w w' : World} {b : Nat} {m : List Am} (h : MapB w b m) (hb : Below w.heap.size w w') : MapB w' b m := h.below hb h.lt
theorem MapB.new (w : World) : MapB (w.alloc (.map #[] 0)) w.heap.size [] := heap_alloc_new w _
/-- The world behind a store into a map. -/
def mapW (W : World) (b : Nat) (m : List Am) : World := setBlock W b (.map (entsFrom m 0).toArray m.length)
theorem mapW_map {W : World} {b : Nat} (h : b < W.heap.size) (m : List Am) : MapB (mapW W b m) b m := by
  unfold MapB mapW setBlock
  simp [h]
theorem mapW_blk {W : World} {b g : Nat} {t : TypeId} {cs : Array Value} (h : Blk W g t cs) (hg : g ≠ b) (m : List Am) : Blk (mapW W b m) g t cs := by
  unfold Blk mapW setBlock at *
  simp [Array.getElem?_setIfInBounds, Ne.symm hg, h]
theorem below_mapW {W0 W : World} {B b : Nat} (h : Below B W0 W) (hb : B ≤ b) (m : List Am) : Below B W0 (mapW W b m) :=
  ⟨h.os, h.tape, h.output, by simpa [mapW, setBlock] using h.size, fun i hi => by
    refine Eq.trans ?_ (h.block i hi)
    simp [mapW, setBlock, Array.getElem?_setIfInBounds, show b ≠ i by omega]⟩
theorem mapW_size (W : World) (b : Nat) (m : List Am) : (mapW W b m).heap.size = W.heap.size := by simp [mapW, setBlock]
theorem run_mapUpdate103' (w : World) (b : Nat) (m : List Am) (hb : MapB w b m) (k : Ky) (v : Vl) :
    (Instr.mapUpdate 103 (.map (some b)) (.agg (encK k)) (.agg (encV v))).run Try.prog w = .ok () (mapW w b (mSet m k v)) := run_mapUpdate103 w b m hb k v
attribute [irreducible] mapW
end Go.Proofs.Ythnhlbikfidpnaa
