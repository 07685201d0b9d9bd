import Derived.Test.YthnhlbikfidpnaaK
import Derived.Deep.WholeRow
namespace Go.Proofs.Ythnhlbikfidpnaa
open Go.RowKit
set_option maxHeartbeats 1000000
set_option maxRecDepth 100000
def stOp (t : TypeId) (p v : Value) : Sem Next := do Instr.storeAt t p v; pure .skip
theorem exec_store67 (ρ : Operand → Value) (dst : Option Tmp) (x y : Operand) (ty : TypeId) (pos : String) (after : Array Edge) (guard : Option (Nat × Bool)) : execOp ρ { dst, op := .store 67 x y, type := ty, pos, after, guard } = stOp 67 (ρ x) (ρ y) := rfl
theorem st67 (W : World) (cs : Array Value) (h0 : cs.size = 21) (x : Am) :
    (stOp 67 (.pointer (some ⟨W.heap.size, 0, none⟩)) (.agg (encA x))).run Try.prog (W.alloc (.cells cs 67)) = .ok .skip (W.alloc (.cells (encA x) 67)) := by
  unfold stOp
  rw [Sem.run_bind, run_storeAt_new (P := Try.prog) W 67 cs (encA x) (by rfl) h0 (by simp [encA, encK, encV, encN, Value.oneCell'])]
  rfl
attribute [local go_sem ↓] exec_load67 exec_load65 exec_load63 exec_store67
theorem kLess_irr (a : Ky) : kLess a a = false := by
  unfold kLess
  simp
theorem kOrd_ge (a b : Ky) : decide (0 ≤ kOrd a b) = !kLess a b := by
  unfold kOrd
  by_cases h : a = b
  · subst h; simp [kLess_irr]
  · rw [if_neg h]; cases kLess a b <;> simp
theorem right38 (l : List Am) (v : Value) (w : World) (hv : Row encA 21 w v l) (hl : l.length ≤ 1000000) (hok : Oks l) :
    Calls Try.prog 38 #[v] w fun e w' => e = .returned (.bool (lRight l)) ∧ Below w.heap.size w w' := by
  obtain ⟨A, c, rfl, hlc, hA⟩ := hv
  have HA := Lib.hid hA
  have HOK := Lib.hid hok
  clear hA hok
  go_enter Try.func38, Try.ntmps38
  go_wp2
  go_loopw [7] (fun i wr => ∃ (k : Nat), k ≤ l.length ∧ i = .int .i64 k ∧ Below w.heap.size w wr ∧ (∀ j, j < k → okAt l j = true)) (fun i _ => l.length - (intOf i).toNat)
  case atStart => exact ⟨0, by omega, rfl, Below.refl _ _, fun j hj => absurd hj (by omega)⟩
  case round =>
    obtain ⟨k, hk, rfl, hbr, hall⟩ := hrel
    have HT := Lib.hid hall
    clear hall
    by_cases hlt : k < l.length
    · obtain ⟨b, off, rfl, hb, hx⟩ := HA.out (by omega)
      obtain ⟨x, hxk⟩ : ∃ x, l[k]? = some x := ⟨l[k], List.getElem?_eq_getElem hlt⟩
      have hxo : Hid x.ok := HOK.out k x hxk
      have hlx : ∀ W, Below w.heap.size w W → (ldOp 67 (.pointer (some ⟨b, off + k * 21, none⟩))).run Try.prog W = .ok (.value (.agg (encA x))) W := fun W hW => ld67 W b (off + k * 21) (encA x) rfl (fun j hj => ((bcB hW).1 _ _ hb).trans (hx k x hxk j hj))
      have hl0 := hlx wr hbr
      have hst : ∀ cs : Array Value, cs.size = 21 → (stOp 67 (.pointer (some ⟨wr.heap.size, 0, none⟩)) (.agg (encA x))).run Try.prog (wr.alloc (.cells cs 67)) = .ok .skip (wr.alloc (.cells (encA x) 67)) := fun cs h0 => st67 wr cs h0 x
      have hsz := hbr.size
      have hC : ∀ W, Below (wr.heap.size + 1) (wr.alloc (.cells (encA x) 67)) W → Below w.heap.size w W := fun W hW => (hbr.alloc (by omega) _).trans (hW.mono (by omega))
      have hbox : ∀ W, Below (wr.heap.size + 1) (wr.alloc (.cells (encA x) 67)) W → (ldOp 67 (.pointer (some ⟨wr.heap.size, 0, none⟩))).run Try.prog W = .ok (.value (.agg (encA x))) W := fun W hW => ld67 W _ 0 (encA x) rfl (fun j hj => by rw [Nat.zero_add]; exact ((Blk.new wr 67 (encA x)).below hW (by omega)).cell j)
      cases hr : x.right
      · have HR := Lib.hid hr
        have HF : Hid (lRight l = false) := allB_false k hlt (by
          cases k with
          | zero => rw [okAt_zero hxk]; exact hr
          | succ m => rw [okAt_succ (p := l[m]) (List.getElem?_eq_getElem (by omega)) hxk, hr]; rfl)
        clear hx hxk HA hr
        as_aux_lemma =>
          go_wp2_with fail
          refine wp_region_quiet (C := fun W => Below (wr.heap.size + 1) (wr.alloc (.cells (encA x) 67)) W) (by kernel_rfl) (by kernel_rfl) ((Below.refl _ _).drew) ?_
          repeat
            (with_reducible refine wpQuiet_step (fun K hK => ?_)
             go_simp
             first
               | (refine hK _ ?_; clear hK K)
               | (apply Exists.intro
                  refine ⟨fun W hW => ?_, hK _ ?_⟩
                  (obtain ⟨hc, hf⟩ := bcB hW
                   have hW0 := hC W hW
                   first
                   | (go_simp; exact rfl)
                   | (go_simp; go_at_call 64; refine (right64 x hxo _).mono ?_; rintro e W2 ⟨rfl, hb⟩; exact ⟨by rw [HR.out], hW.trans (hb.mono (by have := hW.size; simpa using this))⟩))
                  clear hK K))
          refine wpQuiet_nil ?_
          intro w2 hb2
          obtain ⟨hc, hf⟩ := bcB hb2
          go_wp2
          go_ret
          exact ⟨by rw [HF.out]; rfl, hC _ hb2⟩
      · have HR := Lib.hid hr
        clear hr
        obtain rfl | ⟨m, rfl⟩ : k = 0 ∨ ∃ m, k = m + 1 := by cases k with | zero => exact .inl rfl | succ m => exact .inr ⟨m, rfl⟩
        · have HO : Hid (okAt l 0 = true) := by show okAt l 0 = true; rw [okAt_zero hxk]; exact HR.out
          clear hx hxk HA
          simp only [Nat.zero_mul, Nat.add_zero] at hlx hl0
          as_aux_lemma =>
            go_wp2_with fail
            refine wp_region_quiet (C := fun W => Below (wr.heap.size + 1) (wr.alloc (.cells (encA x) 67)) W) (by kernel_rfl) (by kernel_rfl) ((Below.refl _ _).drew) ?_
            repeat
              (with_reducible refine wpQuiet_step (fun K hK => ?_)
               go_simp
               first
                 | (refine hK _ ?_; clear hK K)
                 | (apply Exists.intro
                    refine ⟨fun W hW => ?_, hK _ ?_⟩
                    (obtain ⟨hc, hf⟩ := bcB hW
                     have hW0 := hC W hW
                     first
                     | (go_simp; exact rfl)
                     | (go_simp; go_at_call 64; refine (right64 x hxo _).mono ?_; rintro e W2 ⟨rfl, hb⟩; exact ⟨by rw [HR.out], hW.trans (hb.mono (by have := hW.size; simpa using this))⟩))
                    clear hK K))
            refine wpQuiet_nil ?_
            intro w2 hb2
            obtain ⟨hc, hf⟩ := bcB hb2
            go_wp2
            go_roundw
            case rel => exact ⟨1, by omega, by first | rfl | go_num, hC _ hb2, fun j hj => by obtain rfl : j = 0 := by omega
                                                                                              exact HO.out⟩
            case measure => simp [intOf]; omega
        · obtain ⟨p, hpk⟩ : ∃ p, l[m]? = some p := ⟨l[m], List.getElem?_eq_getElem (by omega)⟩
          have hpo : Hid p.ok := HOK.out m p hpk
          have hlp : ∀ W, Below w.heap.size w W → (ldOp 67 (.pointer (some ⟨b, off + m * 21, none⟩))).run Try.prog W = .ok (.value (.agg (encA p))) W := fun W hW => ld67 W b (off + m * 21) (encA p) rfl (fun j hj => ((bcB hW).1 _ _ hb).trans (hx m p hpk j hj))
          have HO : Hid (okAt l (m + 1) = kLess p.k x.k) := by show okAt l (m + 1) = _; rw [okAt_succ hpk hxk, HR.out]; rfl
          have hmlt := hlt
          have hwm : IntKind.i64.wrap (m : Int) = m := by rw [IntKind.wrap_i64]; omega
          have hml : (0 : Int) ≤ (m : Int) ∧ (m : Int) < (l.length : Int) := by omega
          have h0m : (0 : Int) ≤ (m : Int) + 1 := by omega
          clear hx hxk hpk HA
          cases hls : kLess p.k x.k
          · have HF : Hid (lRight l = false) := allB_false (m + 1) hmlt (by rw [HO.out]; exact hls)
            have hge : (0 : Int) ≤ kOrd p.k x.k := by have := kOrd_ge p.k x.k; rw [hls] at this; simpa using this
            clear hls
            as_aux_lemma =>
              go_wp2_with fail
              refine wp_region_quiet (C := fun W => Below (wr.heap.size + 1) (wr.alloc (.cells (encA x) 67)) W) (by kernel_rfl) (by kernel_rfl) ((Below.refl _ _).drew) ?_
              repeat
                (with_reducible refine wpQuiet_step (fun K hK => ?_)
                 go_simp
                 first
                   | (refine hK _ ?_; clear hK K)
                   | (apply Exists.intro
                      refine ⟨fun W hW => ?_, hK _ ?_⟩
                      (obtain ⟨hc, hf⟩ := bcB hW
                       have hW0 := hC W hW
                       first
                       | (go_simp; exact rfl)
                       | (go_simp; go_at_call 64; refine (right64 x hxo _).mono ?_; rintro e W2 ⟨rfl, hb⟩; exact ⟨by rw [HR.out], hW.trans (hb.mono (by have := hW.size; simpa using this))⟩)
                       | (go_simp; go_at_call 69; refine (order69 p x hpo hxo _).mono ?_; rintro e W2 ⟨rfl, hb⟩; exact ⟨rfl, hW.trans (hb.mono (by have := hW.size; simpa using this))⟩)
                       | (go_simp; rw [if_pos h0m]; exact rfl)
                       | (go_simp; rw [hwm, if_pos hml]; simp only [Int.toNat_natCast]; exact ⟨rfl, rfl⟩))
                      clear hK K))
              refine wpQuiet_nil ?_
              intro w2 hb2
              obtain ⟨hc, hf⟩ := bcB hb2
              go_wp2
              go_ret
              exact ⟨by rw [HF.out]; rfl, hC _ hb2⟩
          · have HL := Lib.hid hls
            have hge : ¬ (0 : Int) ≤ kOrd p.k x.k := by have := kOrd_ge p.k x.k; rw [hls] at this; simpa using this
            clear hls
            as_aux_lemma =>
              go_wp2_with fail
              refine wp_region_quiet (C := fun W => Below (wr.heap.size + 1) (wr.alloc (.cells (encA x) 67)) W) (by kernel_rfl) (by kernel_rfl) ((Below.refl _ _).drew) ?_
              repeat
                (with_reducible refine wpQuiet_step (fun K hK => ?_)
                 go_simp
                 first
                   | (refine hK _ ?_; clear hK K)
                   | (apply Exists.intro
                      refine ⟨fun W hW => ?_, hK _ ?_⟩
                      (obtain ⟨hc, hf⟩ := bcB hW
                       have hW0 := hC W hW
                       first
                       | (go_simp; exact rfl)
                       | (go_simp; go_at_call 64; refine (right64 x hxo _).mono ?_; rintro e W2 ⟨rfl, hb⟩; exact ⟨by rw [HR.out], hW.trans (hb.mono (by have := hW.size; simpa using this))⟩)
                       | (go_simp; go_at_call 69; refine (order69 p x hpo hxo _).mono ?_; rintro e W2 ⟨rfl, hb⟩; exact ⟨rfl, hW.trans (hb.mono (by have := hW.size; simpa using this))⟩)
                       | (go_simp; rw [if_pos h0m]; exact rfl)
                       | (go_simp; rw [hwm, if_pos hml]; simp only [Int.toNat_natCast]; exact ⟨rfl, rfl⟩))
                      clear hK K))
              refine wpQuiet_nil ?_
              intro w2 hb2
              obtain ⟨hc, hf⟩ := bcB hb2
              go_wp2
              go_roundw
              case rel => exact ⟨m + 2, by omega, by go_num, hC _ hb2, fun j hj => by
                by_cases e : j = m + 1
                · rw [e, HO.out]; exact HL.out
                · exact HT.out j (by omega)⟩
              case measure => simp [intOf]; omega
    · obtain rfl : k = l.length := by omega
      go_wp2
      go_ret
      exact ⟨by rw [show lRight l = true from allB_true.2 HT.out]; rfl, hbr⟩
end Go.Proofs.Ythnhlbikfidpnaa
