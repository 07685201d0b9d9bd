/- A load of a whole atom, key or value at an address that is not written out. -/
import Derived.Test.YthnhlbikfidpnaaI
namespace Go.Proofs.Ythnhlbikfidpnaa
open Go.RowKit
set_option maxHeartbeats 1000000
set_option maxRecDepth 100000
def ldOp (t : TypeId) (v : Value) : Sem Next := do pure (.value (← Instr.loadAt t v))
section
variable (ρ : Operand → Value) (dst : Option Tmp) (x : Operand) (ty : TypeId) (pos : String) (after : Array Edge) (guard : Option (Nat × Bool))
theorem exec_load67 : execOp ρ { dst, op := .load 67 x, type := ty, pos, after, guard } = ldOp 67 (ρ x) := rfl
theorem exec_load65 : execOp ρ { dst, op := .load 65 x, type := ty, pos, after, guard } = ldOp 65 (ρ x) := rfl
theorem exec_load63 : execOp ρ { dst, op := .load 63 x, type := ty, pos, after, guard } = ldOp 63 (ρ x) := rfl
end
theorem ld_of (t n : Nat) (hagg : ∀ w, (isAgg t).run Try.prog w = .ok true w) (hsz : ∀ w, (sizeOf t).run Try.prog w = .ok n w) (W : World) (b o : Nat) (cs : Array Value) (hs : cs.size = n) (h : ∀ j, j < n → W.cell? ⟨b, o + j, none⟩ = cs[j]?) :
    (ldOp t (.pointer (some ⟨b, o, none⟩))).run Try.prog W = .ok (.value (.agg cs)) W := by
  have hl : (loadCells ⟨b, o, none⟩ n).run Try.prog W = .ok cs W := by
    have := run_loadCells_list (P := Try.prog) W ⟨b, o, none⟩ cs.toList (fun j v hj => by
      have hadd : (⟨b, o, none⟩ : Addr).add j = ⟨b, o + j, none⟩ := by unfold Addr.add; split <;> simp_all
      have hjl : j < n := by
        have := (List.getElem?_eq_some_iff.1 hj).1
        simpa [hs] using this
      rw [hadd, h j hjl]
      simpa using hj)
    simpa [hs] using this
  unfold ldOp Instr.loadAt Instr.sureAddr loadVar
  simp only [Sem.run_bind, Sem.run_pure, Result.andThen_ok, hagg, if_true, hsz, hl]
theorem ld67 (W : World) (b o : Nat) (cs : Array Value) (hs : cs.size = 21) (h : ∀ j, j < 21 → W.cell? ⟨b, o + j, none⟩ = cs[j]?) :
    (ldOp 67 (.pointer (some ⟨b, o, none⟩))).run Try.prog W = .ok (.value (.agg cs)) W := ld_of 67 21 (fun w => by kernel_rfl) (fun w => by kernel_rfl) W b o cs hs h
theorem ld65 (W : World) (b o : Nat) (cs : Array Value) (hs : cs.size = 9) (h : ∀ j, j < 9 → W.cell? ⟨b, o + j, none⟩ = cs[j]?) :
    (ldOp 65 (.pointer (some ⟨b, o, none⟩))).run Try.prog W = .ok (.value (.agg cs)) W := ld_of 65 9 (fun w => by kernel_rfl) (fun w => by kernel_rfl) W b o cs hs h
theorem ld63 (W : World) (b o : Nat) (cs : Array Value) (hs : cs.size = 12) (h : ∀ j, j < 12 → W.cell? ⟨b, o + j, none⟩ = cs[j]?) :
    (ldOp 63 (.pointer (some ⟨b, o, none⟩))).run Try.prog W = .ok (.value (.agg cs)) W := ld_of 63 12 (fun w => by kernel_rfl) (fun w => by kernel_rfl) W b o cs hs h
attribute [local go_sem ↓] exec_load67 exec_load65 exec_load63
theorem rows34 (l m : List Am) (v u : Value) (w : World) (hv : Row encA 21 w v l) (hu : Row encA 21 w u m) (hl : l.length ≤ 1000000) (hm : m.length ≤ 1000000) :
    Calls Try.prog 34 #[v, u] w fun e w' => e = .returned (.bool (decide (l = m))) ∧ Below w.heap.size w w' := by
  obtain ⟨A, c, rfl, hlc, hA⟩ := hv
  obtain ⟨B, d, rfl, hmd, hB⟩ := hu
  by_cases hn : l.length = m.length
  · have hd : ((l.length : Int) != m.length) = false := by simp [hn]
    have HN := Lib.hid hn
    have HA := Lib.hid hA
    have HB := Lib.hid hB
    clear hn hA hB
    go_enter Try.func34, Try.ntmps34
    go_wp2
    go_loopw [5] (fun i wr => ∃ (k q : Nat), k ≤ l.length ∧ i = .int .i64 k ∧ wr = w.drewN q ∧ l.take k = m.take k) (fun i _ => l.length - (intOf i).toNat)
    case atStart => exact ⟨0, 0, by omega, rfl, rfl, rfl⟩
    case round =>
      obtain ⟨k, q, hk, rfl, rfl, ht⟩ := hrel
      have HT := Lib.hid ht
      clear ht
      by_cases hlt : k < l.length
      · have hltm : k < m.length := by have := HN.out; omega
        obtain ⟨b, off, rfl, hb, hx⟩ := HA.out (by omega)
        obtain ⟨b', off', rfl, hb', hx'⟩ := HB.out (by omega)
        obtain ⟨x, hxk⟩ : ∃ x, l[k]? = some x := ⟨l[k], List.getElem?_eq_getElem hlt⟩
        obtain ⟨y, hyk⟩ : ∃ y, m[k]? = some y := ⟨m[k], List.getElem?_eq_getElem hltm⟩
        have hlx : ∀ q, (ldOp 67 (.pointer (some ⟨b, off + k * 21, none⟩))).run Try.prog (w.drewN q) = .ok (.value (.agg (encA x))) (w.drewN q) := fun q => ld67 _ b (off + k * 21) (encA x) rfl (hx k x hxk)
        have hly : ∀ q, (ldOp 67 (.pointer (some ⟨b', off' + k * 21, none⟩))).run Try.prog (w.drewN q) = .ok (.value (.agg (encA y))) (w.drewN q) := fun q => ld67 _ b' (off' + k * 21) (encA y) rfl (hx' k y hyk)
        have HXK := Lib.hid hxk
        have HYK := Lib.hid hyk
        clear hx hx' hxk hyk HA HB
        by_cases hxy : x = y
        · have he : ∀ W, (Op.equalIn 10000 67 (.agg (encA x)) (.agg (encA y))).run Try.prog W = .ok true W := fun W => (equalIn67 9996 x y W).trans (by rw [decide_eq_true hxy])
          have HXY := Lib.hid hxy
          clear hxy
          go_wp2_with fail
          go_quiet (fail)
          go_wp2
          go_roundw
          case rel => exact ⟨k + 1, _, by omega, by go_num, rfl, by rw [List.take_add_one, List.take_add_one, HT.out, HXK.out, HYK.out, HXY.out]⟩
          case measure => simp [intOf]; omega
        · have he : ∀ W, (Op.equalIn 10000 67 (.agg (encA x)) (.agg (encA y))).run Try.prog W = .ok false W := fun W => (equalIn67 9996 x y W).trans (by rw [decide_eq_false hxy])
          have HXY := Lib.hid hxy
          clear hxy
          go_wp2_with fail
          go_quiet (fail)
          go_wp2
          go_ret
          exact ⟨by rw [decide_eq_false (fun e => HXY.out (by have h1 := HXK.out; rw [e, HYK.out] at h1; exact (Option.some.inj h1).symm))]; rfl, belowN (belowN (Below.refl _ _) _) _⟩
      · obtain rfl : k = l.length := by omega
        go_wp2
        go_ret
        exact ⟨by rw [decide_eq_true (by have h1 := HT.out; rw [List.take_of_length_le (Nat.le_refl _), List.take_of_length_le (by have := HN.out; omega)] at h1; exact h1)]; rfl, belowN (Below.refl _ _) _⟩
  · have hd : ((l.length : Int) != m.length) = true := by simp; omega
    have HN := Lib.hid hn
    clear hn
    go_enter Try.func34, Try.ntmps34
    go_wp2
    go_ret
    exact ⟨by rw [decide_eq_false (fun e => HN.out (by rw [e]))]; rfl, Below.refl _ _⟩
end Go.Proofs.Ythnhlbikfidpnaa
