/- Whole structs stored into blocks that are known whole. -/
import Derived.Test.YthnhlbikfidpnaaQ
import Derived.Deep.MidRow
namespace Go.Proofs.Ythnhlbikfidpnaa
open Go.RowKit
set_option maxHeartbeats 1000000
set_option maxRecDepth 100000
/-- The cells xs stored into block g from place off on. -/
def stW (W : World) (g off : Nat) (xs : Array Value) : World := W.setCells g off xs.toList
def setFrom (cs : Array Value) : Nat → List Value → Array Value
  | _, [] => cs
  | off, v :: r => setFrom (cs.setIfInBounds off v) (off + 1) r
theorem blk_setCells {g : Nat} {t : TypeId} : ∀ (xs : List Value) (off : Nat) (W : World) (cs : Array Value), Blk W g t cs → Blk (W.setCells g off xs) g t (setFrom cs off xs)
  | [], _, _, _, h => h
  | v :: r, off, _, _, h => blk_setCells r (off + 1) _ _ (h.set_ off v)
theorem blk_setCells_far {g g' : Nat} {t : TypeId} {cs : Array Value} (hg : g' ≠ g) : ∀ (xs : List Value) (off : Nat) (W : World), Blk W g' t cs → Blk (W.setCells g off xs) g' t cs
  | [], _, _, h => h
  | v :: r, off, _, h => blk_setCells_far hg r (off + 1) _ (h.far (p := ⟨g, off, none⟩) hg v)
theorem below_setCells {g B : Nat} {W0 : World} (hg : B ≤ g) : ∀ (xs : List Value) (off : Nat) (W : World), Below B W0 W → Below B W0 (W.setCells g off xs)
  | [], _, _, h => h
  | v :: r, off, _, h => below_setCells hg r (off + 1) _ (h.setCell (p := ⟨g, off, none⟩) hg v)
theorem size_setCells {g : Nat} : ∀ (xs : List Value) (off : Nat) (W : World), (W.setCells g off xs).heap.size = W.heap.size
  | [], _, _ => rfl
  | v :: r, off, W => (size_setCells r (off + 1) (W.setCell ⟨g, off, none⟩ v)).trans (by simp [World.setCell])
theorem stW_size (W : World) (g off : Nat) (xs : Array Value) : (stW W g off xs).heap.size = W.heap.size := size_setCells _ _ _
theorem Blk.stW {W : World} {g : Nat} {t : TypeId} {cs : Array Value} (h : Blk W g t cs) (off : Nat) (xs cs' : Array Value) (hc : setFrom cs off xs.toList = cs') : Blk (stW W g off xs) g t cs' := by
  subst hc; exact blk_setCells _ _ _ _ h
theorem Blk.stW_far {W : World} {g g' : Nat} {t : TypeId} {cs : Array Value} (h : Blk W g' t cs) (hg : g' ≠ g) (off : Nat) (xs : Array Value) : Blk (Ythnhlbikfidpnaa.stW W g off xs) g' t cs := blk_setCells_far hg _ _ _ h
theorem below_stW {W0 W : World} {B : Nat} (h : Below B W0 W) (g off : Nat) (hg : B ≤ g) (xs : Array Value) : Below B W0 (stW W g off xs) := below_setCells hg _ _ _ h
theorem stB (t : TypeId) {W : World} {g off : Nat} {T : TypeId} {cs xs : Array Value} (hB : Blk W g T cs) (hi : (Try.prog.info? t).map (·.size) = some xs.size) (h1 : xs.all (·.oneCell') = true) (hle : off + xs.size ≤ cs.size) :
    (stOp t (.pointer (some ⟨g, off, none⟩)) (.agg xs)).run Try.prog W = .ok .skip (stW W g off xs) := by
  unfold stOp
  rw [Sem.run_bind, run_storeAt_mid (P := Try.prog) W g off t xs (fun j hj => ⟨by rw [hB.cell]; simp; omega, hB.frozen _⟩) hi h1]
  rfl
theorem stB65 {W : World} {g off : Nat} {T : TypeId} {cs : Array Value} (hB : Blk W g T cs) (x : Vl) (hle : off + 9 ≤ cs.size) :
    (stOp 65 (.pointer (some ⟨g, off, none⟩)) (.agg (encV x))).run Try.prog W = .ok .skip (stW W g off (encV x)) := stB 65 hB (by rfl) (by simp [encV, encN, Value.oneCell']) hle
theorem stB63 {W : World} {g off : Nat} {T : TypeId} {cs : Array Value} (hB : Blk W g T cs) (x : Ky) (hle : off + 12 ≤ cs.size) :
    (stOp 63 (.pointer (some ⟨g, off, none⟩)) (.agg (encK x))).run Try.prog W = .ok .skip (stW W g off (encK x)) := stB 63 hB (by rfl) (by simp [encK, encN, Value.oneCell']) hle
theorem stB67 {W : World} {g off : Nat} {T : TypeId} {cs : Array Value} (hB : Blk W g T cs) (x : Am) (hle : off + 21 ≤ cs.size) :
    (stOp 67 (.pointer (some ⟨g, off, none⟩)) (.agg (encA x))).run Try.prog W = .ok .skip (stW W g off (encA x)) := stB 67 hB (by rfl) (by simp [encA, encK, encV, encN, Value.oneCell']) hle
theorem ldB65 {W : World} {g off : Nat} {T : TypeId} {cs : Array Value} (hB : Blk W g T cs) (x : Vl) (h : ∀ j, j < 9 → cs[off + j]? = (encV x)[j]?) :
    (ldOp 65 (.pointer (some ⟨g, off, none⟩))).run Try.prog W = .ok (.value (.agg (encV x))) W := ld65 W g off (encV x) rfl (fun j hj => (hB.cell _).trans (h j hj))
theorem ldB63 {W : World} {g off : Nat} {T : TypeId} {cs : Array Value} (hB : Blk W g T cs) (x : Ky) (h : ∀ j, j < 12 → cs[off + j]? = (encK x)[j]?) :
    (ldOp 63 (.pointer (some ⟨g, off, none⟩))).run Try.prog W = .ok (.value (.agg (encK x))) W := ld63 W g off (encK x) rfl (fun j hj => (hB.cell _).trans (h j hj))
theorem ldB67 {W : World} {g off : Nat} {T : TypeId} {cs : Array Value} (hB : Blk W g T cs) (x : Am) (h : ∀ j, j < 21 → cs[off + j]? = (encA x)[j]?) :
    (ldOp 67 (.pointer (some ⟨g, off, none⟩))).run Try.prog W = .ok (.value (.agg (encA x))) W := ld67 W g off (encA x) rfl (fun j hj => (hB.cell _).trans (h j hj))
theorem setFrom_size : ∀ (xs : List Value) (off : Nat) (cs : Array Value), (setFrom cs off xs).size = cs.size
  | [], _, _ => rfl
  | v :: r, off, cs => (setFrom_size r (off + 1) _).trans (by simp)
theorem setFrom_get : ∀ (xs : List Value) (off : Nat) (cs : Array Value) (j : Nat), off + xs.length ≤ cs.size → (setFrom cs off xs)[j]? = if off ≤ j ∧ j < off + xs.length then xs[j - off]? else cs[j]?
  | [], off, cs, j, _ => by rw [if_neg (by simp only [List.length_nil]; omega)]; rfl
  | v :: r, off, cs, j, h => by
    simp only [List.length_cons] at h
    have := setFrom_get r (off + 1) (cs.setIfInBounds off v) j (by simp; omega)
    show (setFrom (cs.setIfInBounds off v) (off + 1) r)[j]? = _
    rw [this]
    simp only [List.length_cons]
    by_cases h1 : off = j
    · subst h1
      rw [if_neg (by omega), if_pos (by omega), Nat.sub_self, Array.getElem?_setIfInBounds_self_of_lt (by omega)]
      rfl
    · by_cases h2 : off + 1 ≤ j ∧ j < off + 1 + r.length
      · rw [if_pos h2, if_pos (by omega), show j - off = (j - (off + 1)) + 1 by omega, List.getElem?_cons_succ]
      · rw [if_neg h2, if_neg (by omega)]
        simp [h1]
theorem whole_ (xs cs : Array Value) (h : cs.size = xs.size) : setFrom cs 0 xs.toList = xs := by
  apply Array.ext_getElem?
  intro j
  rw [setFrom_get _ _ _ _ (by simp; omega), Nat.zero_add, Nat.sub_zero]
  split
  · simp
  · rename_i h1
    have : xs.toList.length ≤ j := by omega
    simp at this
    rw [Array.getElem?_eq_none (by omega), Array.getElem?_eq_none (by omega)]
theorem setFrom_val (x : Am) (v : Vl) : setFrom (encA x) 12 (encV v).toList = encA ⟨x.k, v⟩ := by
  apply Array.ext_getElem?
  intro j
  rw [setFrom_get _ _ _ _ (by simp)]
  split
  · rename_i h1
    simp at h1
    have := valCell ⟨x.k, v⟩ (j - 12) (by omega)
    rw [show 12 + (j - 12) = j by omega] at this
    rw [this]
    simp
  · rename_i h1
    simp at h1
    by_cases h2 : j < 12
    · rw [keyCell x j h2, keyCell ⟨x.k, v⟩ j h2]
    · rw [Array.getElem?_eq_none (by simp; omega), Array.getElem?_eq_none (by simp; omega)]
/-- A result that lies in a cell: the whole value out of its block. -/
theorem blk_cells9 {W : World} {g : Nat} {T : TypeId} {x : Vl} (h : Blk W g T (encV x)) : (loadCellsFrom ⟨g, 0, none⟩ 0 9 #[]).run Try.prog W = .ok (encV x) W := by
  have := run_loadCells_list (P := Try.prog) W ⟨g, 0, none⟩ (encV x).toList (fun j v hv => by
    have hadd : (⟨g, 0, none⟩ : Addr).add j = ⟨g, j, none⟩ := by unfold Addr.add; split <;> simp_all
    rw [hadd, h.cell]
    simpa using hv)
  simpa [loadCells] using this
attribute [irreducible] stW
end Go.Proofs.Ythnhlbikfidpnaa
