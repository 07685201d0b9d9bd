/- The document's find and Find. -/
import Derived.Test.YthnhlbikfidpnaaO
namespace Go.Proofs.Ythnhlbikfidpnaa
open Go.RowKit
set_option maxHeartbeats 2000000
set_option maxRecDepth 100000
abbrev vl0 : Vl := ⟨0, nm0⟩
def lookV (l : List Am) (k : Ky) : Vl × Bool := match look l k with | some v => (v, true) | none => (vl0, false)
theorem lookV_some {l : List Am} {k : Ky} {v : Vl} (h : look l k = some v) : lookV l k = (v, true) := by unfold lookV; rw [h]
theorem lookV_none {l : List Am} {k : Ky} (h : look l k = none) : lookV l k = (vl0, false) := by unfold lookV; rw [h]
theorem look_append (l m : List Am) (k : Ky) : look (l ++ m) k = match look l k with | some v => some v | none => look m k := by
  induction l with
  | nil => rfl
  | cons a l ih =>
    by_cases e : a.k = k
    · rw [List.cons_append, look_cons_eq e, look_cons_eq e]
    · rw [List.cons_append, look_cons_ne e, look_cons_ne e, ih]
theorem look_take_succ {l : List Am} {n : Nat} {x : Am} {k : Ky} (h : l[n]? = some x) (h0 : look (l.take n) k = none) : look (l.take (n + 1)) k = if x.k = k then some x.v else none := by
  rw [List.take_add_one, h, look_append, h0]
  by_cases e : x.k = k
  · rw [if_pos e]; exact look_cons_eq e
  · rw [if_neg e]; exact look_cons_ne e
theorem look_of_take {l : List Am} {n : Nat} {k : Ky} {v : Vl} (h : look (l.take n) k = some v) : look l k = some v := by
  have := look_append (l.take n) (l.drop n) k
  rw [List.take_append_drop, h] at this
  exact this
section
variable (ρ : Operand → Value) (dst : Option Tmp) (x y : Operand) (ty : TypeId) (pos : String) (after : Array Edge) (guard : Option (Nat × Bool))
theorem exec_store65 : execOp ρ { dst, op := .store 65 x y, type := ty, pos, after, guard } = stOp 65 (ρ x) (ρ y) := rfl
theorem exec_store63 : execOp ρ { dst, op := .store 63 x y, type := ty, pos, after, guard } = stOp 63 (ρ x) (ρ y) := rfl
end
theorem st65 (W : World) (cs : Array Value) (h0 : cs.size = 9) (x : Vl) :
    (stOp 65 (.pointer (some ⟨W.heap.size, 0, none⟩)) (.agg (encV x))).run Try.prog (W.alloc (.cells cs 65)) = .ok .skip (W.alloc (.cells (encV x) 65)) := by
  unfold stOp
  rw [Sem.run_bind, run_storeAt_new (P := Try.prog) W 65 cs (encV x) (by rfl) h0 (by simp [encV, encN, Value.oneCell'])]
  rfl
theorem st63 (W : World) (cs : Array Value) (h0 : cs.size = 12) (x : Ky) :
    (stOp 63 (.pointer (some ⟨W.heap.size, 0, none⟩)) (.agg (encK x))).run Try.prog (W.alloc (.cells cs 63)) = .ok .skip (W.alloc (.cells (encK x) 63)) := by
  unfold stOp
  rw [Sem.run_bind, run_storeAt_new (P := Try.prog) W 63 cs (encK x) (by rfl) h0 (by simp [encK, encN, Value.oneCell'])]
  rfl
attribute [local go_sem ↓] exec_load63 exec_load65 exec_store65
theorem find68 (l : List Am) (k : Ky) (v : Value) (w : World) (hv : Row encA 21 w v l) (hl : l.length ≤ 1000000) :
    Calls Try.prog 68 #[v, .agg (encK k)] w fun e w' => e = .returned (.tuple #[.agg (encV (lookV l k).1), .bool (lookV l k).2]) ∧ Below w.heap.size w w' := by
  obtain ⟨A, c, rfl, hlc, hA⟩ := hv
  have HA := Lib.hid hA
  clear hA
  go_enter Try.func68, Try.ntmps68
  go_wp2
  go_loopw [6] (fun i wr => ∃ (n q : Nat), n ≤ l.length ∧ i = .int .i64 n ∧ wr = ((w.alloc (.cells (encK k) 63)).alloc (.cells (encV vl0) 65)).drewN q ∧ look (l.take n) k = none) (fun i _ => l.length - (intOf i).toNat)
  case atStart => exact ⟨0, 0, by omega, rfl, rfl, rfl⟩
  case round =>
    obtain ⟨n, q, hn, rfl, rfl, h0⟩ := hrel
    have H0 := Lib.hid h0
    clear h0
    have hbel : ∀ q cs, Below w.heap.size w (((w.alloc (.cells (encK k) 63)).alloc (.cells cs 65)).drewN q) := fun q cs => belowN (((Below.refl _ _).alloc (Nat.le_refl _) _).alloc (by simp) _) q
    have hst : ∀ q x, (stOp 65 (.pointer (some ⟨w.heap.size + 1, 0, none⟩)) (.agg (encV x))).run Try.prog (((w.alloc (.cells (encK k) 63)).alloc (.cells (encV vl0) 65)).drewN q) = .ok .skip (((w.alloc (.cells (encK k) 63)).alloc (.cells (encV x) 65)).drewN q) := fun q x => by
      have := st65 ((w.alloc (.cells (encK k) 63)).drewN q) (encV vl0) rfl x
      have e : ((w.alloc (.cells (encK k) 63)).drewN q).heap.size = w.heap.size + 1 := by show (w.alloc _).heap.size = _; simp
      rw [e] at this
      exact this
    by_cases hlt : n < l.length
    · obtain ⟨b, off, rfl, hb, hx⟩ := HA.out (by omega)
      obtain ⟨x, hxk⟩ : ∃ x, l[n]? = some x := ⟨l[n], List.getElem?_eq_getElem hlt⟩
      have hlx : ∀ q, (ldOp 63 (.pointer (some ⟨b, off + n * 21, none⟩))).run Try.prog (((w.alloc (.cells (encK k) 63)).alloc (.cells (encV vl0) 65)).drewN q) = .ok (.value (.agg (encK x.k))) (((w.alloc (.cells (encK k) 63)).alloc (.cells (encV vl0) 65)).drewN q) := fun q => ld63 _ b _ (encK x.k) rfl (fun j hj => ((bcB (hbel q _)).1 _ _ hb).trans ((hx n x hxk j (by omega)).trans (keyCell x j hj)))
      have hlk : ∀ q, (ldOp 63 (.pointer (some ⟨w.heap.size, 0, none⟩))).run Try.prog (((w.alloc (.cells (encK k) 63)).alloc (.cells (encV vl0) 65)).drewN q) = .ok (.value (.agg (encK k))) (((w.alloc (.cells (encK k) 63)).alloc (.cells (encV vl0) 65)).drewN q) := fun q => ld63 _ _ 0 (encK k) rfl (fun j hj => by rw [Nat.zero_add]; exact (((Blk.new w 63 (encK k)).alloc _).ext (belowN (Below.refl _ _) q)).cell j)
      have hlv : ∀ q, (ldOp 65 (.pointer (some ⟨b, off + n * 21 + 12, none⟩))).run Try.prog (((w.alloc (.cells (encK k) 63)).alloc (.cells (encV vl0) 65)).drewN q) = .ok (.value (.agg (encV x.v))) (((w.alloc (.cells (encK k) 63)).alloc (.cells (encV vl0) 65)).drewN q) := fun q => ld65 _ b _ (encV x.v) rfl (fun j hj => ((bcB (hbel q _)).1 _ _ hb).trans (by rw [Nat.add_assoc (off + n * 21) 12 j]; exact (hx n x hxk (12 + j) (by omega)).trans (valCell x j hj)))
      have HX := Lib.hid hxk
      clear hx hxk HA
      by_cases hk : x.k = k
      · have he : ∀ W, (Op.equalIn 10000 63 (.agg (encK x.k)) (.agg (encK k))).run Try.prog W = .ok true W := fun W => (equalIn63 9997 x.k k W).trans (by rw [decide_eq_true hk])
        have HK := Lib.hid hk
        clear hk
        go_wp2_with fail
        go_quiet (fail)
        go_wp2_with fail
        exact bodyPost_ret (v := .tuple #[.agg (encV x.v), .bool true]) (by simp [results, Try.results68, go_sem]) rfl ⟨by rw [lookV_some (look_of_take (n := n + 1) (by rw [look_take_succ HX.out H0.out, if_pos HK.out]))], hbel _ _⟩
      · have he : ∀ W, (Op.equalIn 10000 63 (.agg (encK x.k)) (.agg (encK k))).run Try.prog W = .ok false W := fun W => (equalIn63 9997 x.k k W).trans (by rw [decide_eq_false hk])
        have HK := Lib.hid hk
        clear hk
        go_wp2_with fail
        go_quiet (fail)
        go_wp2_with fail
        go_roundw
        case rel => exact ⟨n + 1, _, by omega, by go_num, rfl, by rw [look_take_succ HX.out H0.out, if_neg HK.out]⟩
        case measure => simp [intOf]; omega
    · obtain rfl : n = l.length := by omega
      have hst0 : ∀ q, (stOp 65 (.pointer (some ⟨w.heap.size + 1, 0, none⟩)) (.agg #[.int .u64 0, .int .u8 0, .int .u8 0, .int .u8 0, .int .u8 0, .int .u8 0, .int .u8 0, .int .u8 0, .int .u8 0])).run Try.prog (((w.alloc (.cells (encK k) 63)).alloc (.cells (encV vl0) 65)).drewN q) = .ok .skip (((w.alloc (.cells (encK k) 63)).alloc (.cells (encV vl0) 65)).drewN q) := fun q => hst q vl0
      go_wp2_with fail
      exact bodyPost_ret (v := .tuple #[.agg (encV vl0), .bool false]) (by simp [results, Try.results68, go_sem]) rfl ⟨by rw [lookV_none (by have := H0.out; rwa [List.take_of_length_le (Nat.le_refl _)] at this)], hbel _ _⟩
end Go.Proofs.Ythnhlbikfidpnaa
