/- Rows: slices that read as lists. -/
import Derived.Test.YthnhlbikfidpnaaH
namespace Go.Proofs.Ythnhlbikfidpnaa
open Go.RowKit

/-- The slice value v reads as the list l, each element as k cells. -/
def Row {α : Type} (enc : α → Array Value) (k : Nat) (w : World) (v : Value) (l : List α) : Prop :=
  ∃ A c, v = .slice A l.length c ∧ l.length ≤ c ∧ (0 < l.length → ∃ b off, A = some ⟨b, off, none⟩ ∧ b < w.heap.size ∧
    ∀ i x, l[i]? = some x → ∀ j, j < k → w.cell? ⟨b, off + i * k + j, none⟩ = (enc x)[j]?)
section
variable {α : Type} {enc : α → Array Value} {k : Nat} {w w' : World} {v : Value} {l : List α}
theorem Row.keep (h : Row enc k w v l) (hs : w.heap.size ≤ w'.heap.size) (hc : ∀ b o, b < w.heap.size → w'.cell? ⟨b, o, none⟩ = w.cell? ⟨b, o, none⟩) : Row enc k w' v l := by
  obtain ⟨A, c, rfl, hlc, hr⟩ := h
  refine ⟨A, c, rfl, hlc, fun hl => ?_⟩
  obtain ⟨b, off, rfl, hb, hx⟩ := hr hl
  exact ⟨b, off, rfl, by omega, fun i x hi j hj => (hc _ _ hb).trans (hx i x hi j hj)⟩
theorem Row.ext (h : Row enc k w v l) (hb : Below w.heap.size w w') : Row enc k w' v l := h.keep hb.size (bcell hb).1
theorem Row.alloc (h : Row enc k w v l) (o : Obj) : Row enc k (w.alloc o) v l := h.ext ((Below.refl _ _).alloc (Nat.le_refl _) o)
theorem Row.drew (h : Row enc k w v l) : Row enc k w.drew v l := h.ext (Below.refl _ _).drew
theorem Row.nil (w : World) : Row enc k w (.slice none 0 0) ([] : List α) := ⟨none, 0, rfl, Nat.le_refl _, fun h => absurd h (by simp)⟩
/-- The slice's value and, where there is an element, its address and the cells of element i. -/
theorem Row.open_ (h : Row enc k w v l) : ∃ A c, v = .slice A l.length c ∧ l.length ≤ c ∧ (0 < l.length → ∃ b off, A = some ⟨b, off, none⟩ ∧ b < w.heap.size ∧
    ∀ i x, l[i]? = some x → ∀ j, j < k → w.cell? ⟨b, off + i * k + j, none⟩ = (enc x)[j]?) := h
end
end Go.Proofs.Ythnhlbikfidpnaa
