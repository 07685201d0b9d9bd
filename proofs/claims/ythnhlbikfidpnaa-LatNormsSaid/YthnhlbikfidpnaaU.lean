/- The document's All: rows of rows. -/
import Derived.Test.YthnhlbikfidpnaaT
namespace Go.Proofs.Ythnhlbikfidpnaa
open Go.RowKit
set_option maxHeartbeats 1000000
set_option maxRecDepth 100000
/-- The slice value v reads as a list of rows of atoms. -/
def Rows2 (w : World) (v : Value) (ls : List (List Am)) : Prop :=
  ∃ A c, v = .slice A ls.length c ∧ ls.length ≤ c ∧ (0 < ls.length → ∃ b off, A = some ⟨b, off, none⟩ ∧ b < w.heap.size ∧
    ∀ i l, ls[i]? = some l → ∃ u, w.cell? ⟨b, off + i, none⟩ = some u ∧ Row encA 21 w u l)
theorem Rows2.keep {w w' : World} {v : Value} {ls : List (List Am)} (h : Rows2 w v ls) (hs : w.heap.size ≤ w'.heap.size) (hc : ∀ b o, b < w.heap.size → w'.cell? ⟨b, o, none⟩ = w.cell? ⟨b, o, none⟩) : Rows2 w' v ls := by
  obtain ⟨A, c, rfl, hlc, hr⟩ := h
  refine ⟨A, c, rfl, hlc, fun hl => ?_⟩
  obtain ⟨b, off, rfl, hb, hx⟩ := hr hl
  refine ⟨b, off, rfl, by omega, fun i l hi => ?_⟩
  obtain ⟨u, hu, hR⟩ := hx i l hi
  exact ⟨u, (hc _ _ hb).trans hu, hR.keep hs hc⟩
theorem Rows2.ext {w w' : World} {v : Value} {ls : List (List Am)} (h : Rows2 w v ls) (hb : Below w.heap.size w w') : Rows2 w' v ls := h.keep hb.size (bcell hb).1
def lAll (ls : List (List Am)) : List Am := ls.foldl lJoin []
def sumLen (ls : List (List Am)) : Nat := (ls.map List.length).sum
theorem lAll_snoc (ls : List (List Am)) (l : List Am) : lAll (ls ++ [l]) = lJoin (lAll ls) l := by simp [lAll, List.foldl_append]
theorem lAll_take {ls : List (List Am)} {k : Nat} {l : List Am} (h : ls[k]? = some l) : lAll (ls.take (k + 1)) = lJoin (lAll (ls.take k)) l := by
  rw [List.take_add_one, h]; exact lAll_snoc _ _
theorem sumLen_take {ls : List (List Am)} {k : Nat} {l : List Am} (h : ls[k]? = some l) : sumLen (ls.take (k + 1)) = sumLen (ls.take k) + l.length := by
  rw [List.take_add_one, h]; simp [sumLen]
theorem sumLen_le (ls : List (List Am)) (k : Nat) : sumLen (ls.take k) ≤ sumLen ls := by
  have : sumLen ls = sumLen (ls.take k) + sumLen (ls.drop k) := by
    conv => lhs; rw [← List.take_append_drop k ls]
    simp only [sumLen, List.map_append, List.sum_append]
  omega
theorem sumLen_mem {ls : List (List Am)} {l : List Am} (h : l ∈ ls) : l.length ≤ sumLen ls := by
  obtain ⟨k, hk, rfl⟩ := List.getElem_of_mem h
  have := sumLen_take (List.getElem?_eq_getElem hk)
  have := sumLen_le ls (k + 1)
  omega
theorem lAll_spec : ∀ (ls : List (List Am)), (∀ l ∈ ls, AOk l) → AOk (lAll ls) ∧ (lAll ls).length ≤ sumLen ls := by
  intro ls
  rw [← List.reverse_reverse ls]
  generalize ls.reverse = rs
  intro h
  induction rs with
  | nil => exact ⟨fun a h => (by cases h), Nat.le_refl _⟩
  | cons l rs ih =>
    rw [List.reverse_cons] at h ⊢
    obtain ⟨h1, h2⟩ := ih fun x hx => h x (by simp at hx ⊢; exact .inl hx)
    have hl := h l (by simp)
    rw [lAll_snoc]
    refine ⟨lJoin_ok h1 hl, ?_⟩
    have := lJoin_len _ _ h1 hl
    have e : sumLen (rs.reverse ++ [l]) = sumLen rs.reverse + l.length := by simp [sumLen]
    omega
theorem All31 (ls : List (List Am)) (v : Value) (w : World) (hv : Rows2 w v ls) (hn : ls.length ≤ 1000000) (hl : sumLen ls ≤ 500000) (hok : ∀ l ∈ ls, AOk l) :
    Calls Try.prog 31 #[v] w fun e w' => ∃ r, e = .returned r ∧ Row encA 21 w' r (lAll ls) ∧ Below w.heap.size w w' := by
  have HV := Lib.hid hv
  have HOK := Lib.hid hok
  obtain ⟨A, c, rfl, hlc, hA⟩ := hv
  have HA := Lib.hid hA
  clear hA hok
  go_enter Try.func31, Try.ntmps31
  go_wp2_with fail
  go_loopw [3, 4] (fun o i wr => ∃ (k : Nat), k ≤ ls.length ∧ i = .int .i64 k ∧ Row encA 21 wr o (lAll (ls.take k)) ∧ Below w.heap.size w wr) (fun _ i _ => ls.length - (intOf i).toNat)
  case atStart => exact ⟨0, by omega, rfl, Row.nil _, Below.refl _ _⟩
  case round =>
    obtain ⟨k, hk, rfl, how, hbr⟩ := hrel
    have HW := Lib.hid how
    clear how
    by_cases hlt : k < ls.length
    · obtain ⟨b, off, rfl, hb, hx⟩ := HA.out (by omega)
      obtain ⟨l, hlk⟩ : ∃ l, ls[k]? = some l := ⟨ls[k], List.getElem?_eq_getElem hlt⟩
      obtain ⟨u, hu, hR⟩ := hx k l hlk
      have hcu : wr.cell? ⟨b, off + k, none⟩ = some u := ((bcB hbr).1 _ _ hb).trans hu
      have HR := Lib.hid (hR.ext hbr)
      have HX := Lib.hid hlk
      have hsp := lAll_spec (ls.take k) fun x hx => HOK.out x (List.mem_of_mem_take hx)
      have hll : l.length ≤ 500000 := Nat.le_trans (sumLen_mem (List.mem_of_getElem? hlk)) hl
      have h1 : (lAll (ls.take k)).length ≤ 500000 := Nat.le_trans hsp.2 (Nat.le_trans (sumLen_le ls k) hl)
      have HP := Lib.hid hsp
      have HOL := Lib.hid (aok_oks (HOK.out l (List.mem_of_getElem? hlk)))
      clear hx hlk HA hsp hR hu
      go_wp2_with (go_at_call 44; refine (join44 (lAll (ls.take k)) l _ u _ HW.out HR.out h1 hll (aok_oks HP.out.1) HOL.out).mono ?_; rintro e w2 ⟨r, rfl, hR2, hb2⟩)
      exact ⟨⟨k + 1, by omega, by go_num, by rw [lAll_take HX.out]; exact hR2, hbr.trans (hb2.mono hbr.size)⟩, by simp [intOf]; omega⟩
    · obtain rfl : k = ls.length := by omega
      go_wp2_with fail
      go_ret
      exact ⟨_, rfl, by have := HW.out; rwa [List.take_of_length_le (Nat.le_refl _)] at this, hbr⟩
end Go.Proofs.Ythnhlbikfidpnaa
