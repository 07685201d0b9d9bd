/- The arguments opened: a slice of atoms, a key. -/
import Derived.Test.YthnhlbikfidpnaaSl
import Derived.OpenShut
import Derived.ChangeArms
import Derived.ProofKit
import Derived.Carry
import Derived.DataReads
namespace Go.Proofs.Ythnhlbikfidpnaa
open Go.ChangeShapes Go.WideShapes Go.RowKit
set_option maxHeartbeats 1000000
set_option maxRecDepth 100000
theorem piece {α : Type} (l : List α) (a n : Nat) : l.drop a = (l.drop a).take n ++ l.drop (a + n) := by
  rw [← List.drop_drop]; exact (List.take_append_drop n _).symm
theorem wf_u8 {n : Int} (h : (Lit.int .u8 n).wf = true) : 0 ≤ n ∧ n ≤ 255 := by
  have h1 : IntKind.u8.min = 0 := rfl
  have h2 : IntKind.u8.max = 255 := rfl
  simp [Lit.wf, h1, h2] at h
  exact h
theorem wf_u16 {n : Int} (h : (Lit.int .u16 n).wf = true) : 0 ≤ n ∧ n ≤ 65535 := by
  have h1 : IntKind.u16.min = 0 := rfl
  have h2 : IntKind.u16.max = 65535 := rfl
  simp [Lit.wf, h1, h2] at h
  exact h
theorem wf_u32 {n : Int} (h : (Lit.int .u32 n).wf = true) : 0 ≤ n ∧ n ≤ 4294967295 := by
  have h1 : IntKind.u32.min = 0 := rfl
  have h2 : IntKind.u32.max = 4294967295 := rfl
  simp [Lit.wf, h1, h2] at h
  exact h
theorem wf_u64 {n : Int} (h : (Lit.int .u64 n).wf = true) : 0 ≤ n ∧ n ≤ 18446744073709551615 := by
  have h1 : IntKind.u64.min = 0 := rfl
  have h2 : IntKind.u64.max = 18446744073709551615 := rfl
  simp [Lit.wf, h1, h2] at h
  exact h
section
variable {H : Type} {enc : TypeId × Value → H} {w : World} {base : Nat} {spare : Nat → Bool} {held : Bool} {fuel : Nat} {cs : List Value} {x : DataW H × List MemPlace}
theorem open61 (h : DataW.trod enc Try.prog w base spare held fuel 61 cs = some x) : ∃ n : Nm, cs = (encN n).toList ∧ n.ok := by
  obtain ⟨xs, m, _, _, hlen, hxs, hi⟩ := DataW.trod_array Try.underlying61 h
  have hlen : cs.length = 8 := hlen
  have e : ∀ i, i < 8 → ∃ n, (cs.drop i).take 1 = [.int .u8 n] ∧ 0 ≤ n ∧ n ≤ 255 := fun i h8 => by
    have h1 := hi i h8
    have hc : Try.prog.cellsOf 5 = 1 := by kernel_rfl
    rw [hc, Nat.mul_one, List.getElem?_eq_getElem (by omega)] at h1
    obtain ⟨n, h2, _, h3⟩ := DataW.trod_int und5 h1
    exact ⟨n, h2, wf_u8 h3⟩
  obtain ⟨n0, e0, b0⟩ := e 0 (by omega)
  obtain ⟨n1, e1, b1⟩ := e 1 (by omega)
  obtain ⟨n2, e2, b2⟩ := e 2 (by omega)
  obtain ⟨n3, e3, b3⟩ := e 3 (by omega)
  obtain ⟨n4, e4, b4⟩ := e 4 (by omega)
  obtain ⟨n5, e5, b5⟩ := e 5 (by omega)
  obtain ⟨n6, e6, b6⟩ := e 6 (by omega)
  obtain ⟨n7, e7, b7⟩ := e 7 (by omega)
  refine ⟨⟨n0, n1, n2, n3, n4, n5, n6, n7⟩, ?_, b0, b1, b2, b3, b4, b5, b6, b7⟩
  have hz : cs.drop 8 = [] := List.drop_eq_nil_of_le (by omega)
  calc cs = cs.drop 0 := rfl
    _ = _ := by rw [piece cs 0 1, e0, piece cs 1 1, e1, piece cs 2 1, e2, piece cs 3 1, e3, piece cs 4 1, e4, piece cs 5 1, e5, piece cs 6 1, e6, piece cs 7 1, e7, hz]; rfl
theorem fld {xs : List (DataW H × List MemPlace)} {ty off n j : Nat} (hc : Try.prog.cellsOf ty = n) (h : DataW.trod enc Try.prog w base spare held fuel ty ((cs.drop off).take (Try.prog.cellsOf ty)) = xs[j]?) (hj : j < xs.length) :
    ∃ y, DataW.trod enc Try.prog w base spare held fuel ty ((cs.drop off).take n) = some y := by
  rw [hc, List.getElem?_eq_getElem hj] at h
  exact ⟨_, h⟩
theorem c5 : Try.prog.cellsOf 5 = 1 := by kernel_rfl
theorem c59 : Try.prog.cellsOf 59 = 1 := by kernel_rfl
theorem c22 : Try.prog.cellsOf 22 = 1 := by kernel_rfl
theorem c27 : Try.prog.cellsOf 27 = 1 := by kernel_rfl
theorem c61 : Try.prog.cellsOf 61 = 8 := by kernel_rfl
theorem c63 : Try.prog.cellsOf 63 = 12 := by kernel_rfl
theorem c65 : Try.prog.cellsOf 65 = 9 := by kernel_rfl
theorem c67 : Try.prog.cellsOf 67 = 21 := by kernel_rfl
theorem open63 (h : DataW.trod enc Try.prog w base spare held fuel 63 cs = some x) : ∃ k : Ky, cs = (encK k).toList ∧ k.ok := by
  obtain ⟨xs, m, _, _, hlen, hxs, hi⟩ := DataW.trod_struct Try.underlying63 h
  rw [c63] at hlen
  have hxs : xs.length = 5 := hxs
  obtain ⟨y0, h0⟩ := fld (ty := 5) c5 (hi 0 _ rfl) (by omega)
  obtain ⟨y1, h1⟩ := fld (ty := 59) c59 (hi 1 _ rfl) (by omega)
  obtain ⟨y2, h2⟩ := fld (ty := 61) c61 (hi 2 _ rfl) (by omega)
  obtain ⟨y3, h3⟩ := fld (ty := 5) c5 (hi 3 _ rfl) (by omega)
  obtain ⟨y4, h4⟩ := fld (ty := 22) c22 (hi 4 _ rfl) (by omega)
  obtain ⟨s, e0, _, b0⟩ := DataW.trod_int und5 h0
  obtain ⟨c, e1, _, b1⟩ := DataW.trod_int und59 h1
  obtain ⟨n, e2, b2⟩ := open61 h2
  obtain ⟨r, e3, _, b3⟩ := DataW.trod_int und5 h3
  obtain ⟨q, e4, _, b4⟩ := DataW.trod_int und22 h4
  refine ⟨⟨s, c, n, r, q⟩, ?_, wf_u8 b0, wf_u16 b1, b2, wf_u8 b3, wf_u32 b4⟩
  have hz : cs.drop 12 = [] := List.drop_eq_nil_of_le (by omega)
  have e0 : (cs.drop 0).take 1 = _ := e0
  have e1 : (cs.drop 1).take 1 = _ := e1
  have e2 : (cs.drop 2).take 8 = _ := e2
  have e3 : (cs.drop 10).take 1 = _ := e3
  have e4 : (cs.drop 11).take 1 = _ := e4
  calc cs = cs.drop 0 := rfl
    _ = _ := by rw [piece cs 0 1, e0, piece cs 1 1, e1, piece cs 2 8, e2, piece cs 10 1, e3, piece cs 11 1, e4, hz]; rfl
theorem open65 (h : DataW.trod enc Try.prog w base spare held fuel 65 cs = some x) : ∃ v : Vl, cs = (encV v).toList ∧ v.ok := by
  obtain ⟨xs, m, _, _, hlen, hxs, hi⟩ := DataW.trod_struct Try.underlying65 h
  rw [c65] at hlen
  have hxs : xs.length = 2 := hxs
  obtain ⟨y0, h0⟩ := fld (ty := 27) c27 (hi 0 _ rfl) (by omega)
  obtain ⟨y1, h1⟩ := fld (ty := 61) c61 (hi 1 _ rfl) (by omega)
  obtain ⟨s, e0, _, b0⟩ := DataW.trod_int und27 h0
  obtain ⟨n, e1, b1⟩ := open61 h1
  refine ⟨⟨s, n⟩, ?_, wf_u64 b0, b1⟩
  have hz : cs.drop 9 = [] := List.drop_eq_nil_of_le (by omega)
  have e0 : (cs.drop 0).take 1 = _ := e0
  have e1 : (cs.drop 1).take 8 = _ := e1
  calc cs = cs.drop 0 := rfl
    _ = _ := by rw [piece cs 0 1, e0, piece cs 1 8, e1, hz]; rfl
theorem open67 (h : DataW.trod enc Try.prog w base spare held fuel 67 cs = some x) : ∃ a : Am, cs = (encA a).toList ∧ a.ok := by
  obtain ⟨xs, m, _, _, hlen, hxs, hi⟩ := DataW.trod_struct Try.underlying67 h
  rw [c67] at hlen
  have hxs : xs.length = 2 := hxs
  obtain ⟨y0, h0⟩ := fld (ty := 63) c63 (hi 0 _ rfl) (by omega)
  obtain ⟨y1, h1⟩ := fld (ty := 65) c65 (hi 1 _ rfl) (by omega)
  obtain ⟨k, e0, b0⟩ := open63 h0
  obtain ⟨v, e1, b1⟩ := open65 h1
  refine ⟨⟨k, v⟩, ?_, b0, b1⟩
  have hz : cs.drop 21 = [] := List.drop_eq_nil_of_le (by omega)
  have e0 : (cs.drop 0).take 12 = _ := e0
  have e1 : (cs.drop 12).take 9 = _ := e1
  calc cs = cs.drop 0 := rfl
    _ = _ := by rw [piece cs 0 12, e0, piece cs 12 9, e1, hz]; rfl
/-- A slice of atoms that came in, as a row. -/
theorem open54 {A : Option Addr} {len cap : Nat} (h : DataW.trod enc Try.prog w base spare held fuel 54 [.slice A len cap] = some x) : ∃ l : List Am, l.length = len ∧ Row encA 21 w (.slice A len cap) l ∧ AOk l ∧ len ≤ 9223372036854775807 := by
  rcases DataW.trod_slice Try.underlying54 h with ⟨he, _⟩ | ⟨a, len', cap', elems, rest, n, _, he, _, _, hlc, hcm, hel, hi, _⟩
  · injection he with he _
    injection he with h1 h2 h3
    subst h1 h2 h3
    exact ⟨[], rfl, Row.nil w, fun a h => (by cases h), by omega⟩
  · injection he with he _
    injection he with h1 h2 h3
    subst h1 h2 h3
    have hmx : cap ≤ 9223372036854775807 := by unfold maxLen at hcm; exact hcm
    have hat : ∀ i, i < len → ∃ x : Am, x.ok ∧ ∀ j, j < 21 → w.cell? ((a.add (i * 21)).add j) = (encA x)[j]? := fun i hil => by
      have h1 := hi i hil
      rw [c67, List.getElem?_eq_getElem (by omega)] at h1
      obtain ⟨cs', hc, ht⟩ := Option.bind_eq_some_iff.1 h1
      obtain ⟨x, rfl, hx⟩ := open67 ht
      obtain ⟨_, _, hcell⟩ := World.cells?_some hc
      exact ⟨x, hx, fun j hj => by rw [hcell j hj]; simp⟩
    have hch : ∃ f : Nat → Am, ∀ i, i < len → (f i).ok ∧ ∀ j, j < 21 → w.cell? ((a.add (i * 21)).add j) = (encA (f i))[j]? :=
      ⟨fun i => if hil : i < len then Classical.choose (hat i hil) else zA, fun i hil => by
        dsimp only; rw [dif_pos hil]; exact Classical.choose_spec (hat i hil)⟩
    obtain ⟨f, hf⟩ := hch
    refine ⟨(List.range len).map f, by simp, ⟨some a, cap, by simp, by simpa using hlc, fun hl => ?_⟩, fun x hx => ?_, by omega⟩
    · have hl : 0 < len := by simpa using hl
      obtain ⟨b, off, spot⟩ := a
      have h0 := (hf 0 hl).2 0 (by omega)
      have hsp : spot = none := by
        cases spot with
        | none => rfl
        | some s =>
          exfalso
          unfold World.cell? at h0
          simp [Addr.add] at h0
          revert h0
          split <;> simp
      subst hsp
      have hadd : ∀ i j, ((⟨b, off, none⟩ : Addr).add (i * 21)).add j = ⟨b, off + i * 21 + j, none⟩ := fun i j => by rw [Addr.add_mid, Addr.add_mid]
      refine ⟨b, off, rfl, ?_, fun i x hx j hj => ?_⟩
      · rw [hadd, Nat.zero_mul] at h0
        exact World.block_lt_of_cell? w _ (h0.trans (Array.getElem?_eq_getElem (by simp)))
      · rw [List.getElem?_map] at hx
        obtain ⟨i', hi', rfl⟩ := Option.map_eq_some_iff.1 hx
        obtain ⟨hil, rfl⟩ := List.getElem?_eq_some_iff.1 hi'
        rw [List.getElem_range, ← hadd]
        exact (hf i (by simpa using hil)).2 j hj
    · obtain ⟨i, hi, rfl⟩ := List.mem_map.1 hx
      exact (hf i (List.mem_range.1 hi)).1
end
end Go.Proofs.Ythnhlbikfidpnaa
