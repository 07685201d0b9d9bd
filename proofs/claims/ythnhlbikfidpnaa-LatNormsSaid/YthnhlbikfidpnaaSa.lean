/- slices.SortFunc of atoms by order: the row sorted. -/
import Derived.Test.YthnhlbikfidpnaaY
import Derived.Test.YthnhlbikfidpnaaW
namespace Go.Proofs.Ythnhlbikfidpnaa
open Go.RowKit Go.Sort Go.Shelf
set_option maxHeartbeats 1000000
set_option maxRecDepth 100000
abbrev OkA := { a : Am // a.ok }
theorem am0_ok : (⟨⟨0, 0, nm0, 0, 0⟩, ⟨0, nm0⟩⟩ : Am).ok := by
  refine ⟨⟨?_, ?_, ?_, ?_, ?_⟩, ?_, ?_⟩ <;> simp [Nm.ok]
instance : Inhabited OkA := ⟨⟨_, am0_ok⟩⟩
def encO (x : OkA) : List Value := (encA x.1).toList
def cfO (x y : OkA) : Int := kOrd x.1.k y.1.k
theorem ltO (x y : OkA) : ltOf cfO x y = kLess x.1.k y.1.k := by
  unfold ltOf cfO kOrd
  by_cases h : x.1.k = y.1.k
  · rw [if_pos h, h, kLess_irr]; rfl
  · rw [if_neg h]
    cases kLess x.1.k y.1.k <;> rfl
theorem swoO : SWO (ltOf cfO) where
  irrefl x := by rw [ltO, kLess_irr]
  trans x y z h1 h2 := by rw [ltO] at *; exact kLess_trans h1 h2
  ntrans x y z h1 h2 := by
    rw [ltO] at *
    rw [Bool.eq_false_iff]
    intro h
    rcases kLess_tri x.2.1 y.2.1 with h' | h' | h'
    · rw [h1] at h'; cases h'
    · rw [h', h2] at h; cases h
    · rcases kLess_tri y.2.1 z.2.1 with h'' | h'' | h''
      · rw [h2] at h''; cases h''
      · rw [← h'', h1] at h; cases h
      · have := kLess_trans (kLess_trans h h'') h'
        rw [kLess_irr] at this; cases this
theorem bel_grow {w w' : World} (h : Bel w.heap.size w w') : ∃ q os', w' = grow (w.drewN q) os' := by
  refine ⟨w'.drawn - w.drawn, w'.heap.extract w.heap.size w'.heap.size, ?_⟩
  have hd := h.drawn
  have hh : w'.heap = w.heap ++ w'.heap.extract w.heap.size w'.heap.size := by
    apply Array.ext_getElem?
    intro i
    rw [Array.getElem?_append]
    split
    · rename_i hi; exact h.block i hi
    · rename_i hi
      rw [Array.getElem?_extract]
      split
      · congr 1; omega
      · rename_i h2; rw [Array.getElem?_eq_none (by omega)]
  have e1 := h.os
  have e2 := h.tape
  have e3 := h.output
  cases w' with
  | mk heap tape drawn os output =>
    simp only at e1 e2 e3 hd hh
    subst e1 e2 e3
    unfold grow World.drewN
    simp only [World.mk.injEq, and_true, true_and]
    exact ⟨hh, by omega⟩
theorem cmpO (blk off size : Nat) (w : World) : CmpLays Try.prog 69 #[] encO 21 cfO blk off size w := fun _ _ _ _ x y =>
  (order69g x.1 y.1 x.2 y.2 _).mono fun _ _ ⟨he, hb⟩ => ⟨he, bel_grow hb⟩
theorem isAgg67 (w : World) : (isAgg 67).run Try.prog w = .ok true w := by kernel_rfl
theorem sizeOf67 (w : World) : (sizeOf 67).run Try.prog w = .ok 21 w := by kernel_rfl
theorem encO_get (x : OkA) (j : Nat) (h : j < 21) : (encO x)[j]! = (encA x.1)[j]'(by simpa using h) := by
  unfold encO
  rw [getElem!_pos _ j (by simpa using h)]
  simp
theorem below_sortW {w : World} {blk off n : Nat} {d : Array OkA} {os : Array Obj} : w.grownBy (sortWorldK encO 21 w blk off n d os) (some blk) := by
  refine ⟨rfl, rfl, rfl, ?_, fun k hk hne => ?_⟩
  · unfold sortWorldK
    rw [size_grow, putRowK, size_putRow]
    exact Nat.le_add_right _ _
  · unfold sortWorldK
    rw [heap_grow_old _ _ (by rw [putRowK, size_putRow]; exact hk)]
    unfold putRowK putRow mapBlock
    simp only [heap_ahead, Array.getElem?_modify]
    rw [if_neg (fun e => hne (by rw [e]))]
/-- A list of atoms that are all in their bounds, as an array of such. -/
def okArr (l : List Am) (h : AOk l) : Array OkA := (l.attach.map fun x => (⟨x.1, h x.1 x.2⟩ : OkA)).toArray
theorem okArr_size (l : List Am) (h : AOk l) : (okArr l h).size = l.length := by simp [okArr]
theorem okArr_map (l : List Am) (h : AOk l) : (okArr l h).toList.map (·.1) = l := by simp [okArr, List.map_map]
theorem okArr_get (l : List Am) (h : AOk l) (i : Nat) (hi : i < l.length) : ((okArr l h)[i]!).1 = l[i] := by
  rw [getElem!_pos _ i (by rw [okArr_size]; exact hi)]
  simp [okArr]
theorem sort95 (l : List Am) (g c : Nat) (w : World) (B : Nat) (hown : Own w B (.slice (some ⟨g, 0, none⟩) l.length c) l) (hlen : l.length ≤ 2000000) (hok : AOk l) :
    Calls Try.prog 95 #[.slice (some ⟨g, 0, none⟩) l.length c, .func (.func 69) #[] #[]] w fun e w' => e = .returned (.tuple #[]) ∧
      ∃ l' : List Am, l'.Perm l ∧ (l'.Pairwise fun a b => kLess b.k a.k = false) ∧ Row encA 21 w' (.slice (some ⟨g, 0, none⟩) l.length c) l' ∧ w.grownBy w' (some g) ∧ ∃ cur, Blk w' g 67 cur := by
  obtain ⟨_, hown⟩ := hown
  rcases hown with ⟨h0, _⟩ | ⟨g', cap, cur, he, hg, hh, hc, hm, hs, ht⟩
  · cases h0
  have hv : g' = g ∧ cap = c := by
    injection he with h1 h2 h3
    injection h1 with h1
    injection h1 with h1
    exact ⟨h1.symm, h3.symm⟩
  obtain ⟨rfl, rfl⟩ := hv
  have hB : Blk w g' 67 cur := hh
  have hcell : ∀ i (hi : i < l.length) j, j < 21 → cur[i * 21 + j]? = (encA l[i])[j]? := by
    intro i hi j hj
    have hrow := own_row (w := w) (B := B) (v := .slice (some ⟨g', 0, none⟩) l.length cap) (l := l) ⟨by rw [← ht, List.length_take]; simp; omega, .inr ⟨g', cap, cur, rfl, hg, hh, hc, hm, hs, ht⟩⟩
    obtain ⟨A, c', hA, _, hr⟩ := hrow
    obtain ⟨b, off, hb, _, hx⟩ := hr (by omega)
    injection hA with h1 h2 h3
    rw [hb] at h1
    injection h1 with h1
    injection h1 with h1 h2
    subst h1 h2
    have := hx i l[i] (List.getElem?_eq_getElem hi) j hj
    rw [hB.cell, Nat.zero_add] at this
    exact this
  have hH : HoldsK encO 21 w g' 0 (okArr l hok) := by
    intro t ht'
    rw [size_flatK, okArr_size] at ht'
    have hi : t / 21 < l.length := by omega
    have hj : t % 21 < 21 := Nat.mod_lt _ (by omega)
    have e : t / 21 * 21 + t % 21 = t := by omega
    have := hcell (t / 21) hi (t % 21) hj
    rw [e] at this
    refine ⟨?_, hB.frozen _⟩
    rw [hB.cell, Nat.zero_add, this, get_flatK _ _ _ _ (by rw [okArr_size]; exact ht'), encO_get _ _ hj]
    simp only [id]
    have hk := okArr_get l hok (t / 21) hi
    rw [Array.getElem?_eq_getElem (by simpa using hj)]
    congr 1
    simp only [hk]
  have hcon := AnyQ.slices_SortFunc Try.sortA 21 isAgg67 sizeOf67 encO (fun _ => rfl) (fun x v hv => oneCells x.1 v hv) cfO swoO 69 #[] g' 0 cap (okArr l hok) w (enters_of Try.func69 (by kernel_rfl) rfl) (cmpO g' 0 _ w) hH hB.lt (by rw [okArr_size]; omega)
  rw [okArr_size] at hcon
  change Calls Try.prog 95 _ _ _ at hcon
  refine hcon.mono ?_
  rintro e w' ⟨rfl, d', n, os, ⟨hsz, _, hperm⟩, hsort, rfl⟩
  rw [okArr_size] at hsz
  have hblk : ∃ cur, Blk (sortWorldK encO 21 w g' 0 n d' os) g' 67 cur := ⟨putCells id 0 (flatK encO 21 d') cur, by
    unfold Blk sortWorldK
    rw [heap_grow_old _ _ (by rw [putRowK, size_putRow]; exact hB.lt)]
    unfold putRowK putRow mapBlock
    simp [heap_ahead, Array.getElem?_modify, hh, onCells]⟩
  refine ⟨rfl, d'.toList.map (·.1), ?_, ?_, ?_, below_sortW, hblk⟩
  · have h1 : (d'.extract 0 l.length) = d' := by rw [← hsz]; exact Array.extract_size
    have h2 : ((okArr l hok).extract 0 l.length) = okArr l hok := by rw [← okArr_size l hok]; exact Array.extract_size
    rw [h1, h2] at hperm
    have := hperm.map (·.1)
    rwa [okArr_map] at this
  · rw [List.pairwise_map, List.pairwise_iff_getElem]
    intro i j hi hj hij
    have hj' : j < d'.size := by simpa using hj
    have := hsort i j (Nat.zero_le _) hij (by omega)
    rw [ltO, getElem!_pos d' j hj', getElem!_pos d' i (by omega)] at this
    simpa using this
  · have hH' : HoldsK encO 21 (sortWorldK encO 21 w g' 0 n d' os) g' 0 d' :=
      holdsK_grow encO 21 _ os g' 0 d' (by rw [putRowK, size_putRow]; exact hB.lt) (holdsK_putRowK encO 21 _ g' 0 (okArr l hok) d' (holdsK_ahead encO 21 w n g' 0 _ hH) (by rw [okArr_size]; exact hsz))
    refine ⟨some ⟨g', 0, none⟩, cap, by simp [hsz], by simp [hsz]; exact hc, fun _ => ⟨g', 0, rfl, Nat.lt_of_lt_of_le hB.lt below_sortW.size, fun i x hx j hj => ?_⟩⟩
    rw [List.getElem?_map] at hx
    obtain ⟨y, hy, rfl⟩ := Option.map_eq_some_iff.1 hx
    have hi : i < d'.size := by have := (List.getElem?_eq_some_iff.1 hy).1; simpa using this
    have hyd : d'[i]! = y := by
      rw [getElem!_pos d' i hi]
      have := (List.getElem?_eq_some_iff.1 hy).2
      simpa using this
    rw [(hH'.cell hi hj).1, hyd, encO_get _ _ hj]
    rw [Array.getElem?_eq_getElem (by simpa using hj)]
end Go.Proofs.Ythnhlbikfidpnaa
