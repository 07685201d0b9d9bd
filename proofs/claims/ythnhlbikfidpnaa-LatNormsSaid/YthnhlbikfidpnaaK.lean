/- Which rows are states. -/
import Derived.Test.YthnhlbikfidpnaaJ
namespace Go.Proofs.Ythnhlbikfidpnaa
open Go.RowKit
set_option maxHeartbeats 1000000
set_option maxRecDepth 100000
attribute [local go_sem ↓] exec_load67 exec_load65 exec_load63

def okAt (l : List Am) : Nat → Bool
  | 0 => match l[0]? with | some a => a.right | none => true
  | j + 1 => match l[j]?, l[j + 1]? with | some p, some a => a.right && kLess p.k a.k | _, _ => true
def lRight (l : List Am) : Bool := allB (okAt l) l.length
theorem okAt_zero {l : List Am} {a : Am} (h : l[0]? = some a) : okAt l 0 = a.right := by simp [okAt, h]
theorem okAt_succ {l : List Am} {j : Nat} {p a : Am} (hp : l[j]? = some p) (h : l[j + 1]? = some a) : okAt l (j + 1) = (a.right && kLess p.k a.k) := by simp [okAt, hp, h]
theorem keyCell (x : Am) (j : Nat) (hj : j < 12) : (encA x)[j]? = (encK x.k)[j]? := by
  obtain rfl | rfl | rfl | rfl | rfl | rfl | rfl | rfl | rfl | rfl | rfl | rfl := (show j = 0 ∨ j = 1 ∨ j = 2 ∨ j = 3 ∨ j = 4 ∨ j = 5 ∨ j = 6 ∨ j = 7 ∨ j = 8 ∨ j = 9 ∨ j = 10 ∨ j = 11 by omega)
  all_goals rfl
theorem valCell (x : Am) (j : Nat) (hj : j < 9) : (encA x)[12 + j]? = (encV x.v)[j]? := by
  obtain rfl | rfl | rfl | rfl | rfl | rfl | rfl | rfl | rfl := (show j = 0 ∨ j = 1 ∨ j = 2 ∨ j = 3 ∨ j = 4 ∨ j = 5 ∨ j = 6 ∨ j = 7 ∨ j = 8 by omega)
  all_goals rfl
def Oks (l : List Am) : Prop := ∀ (i : Nat) (a : Am), l[i]? = some a → a.ok

theorem right39 (l : List Am) (v : Value) (w : World) (hv : Row encA 21 w v l) (hl : l.length ≤ 1000000) (hok : Oks l) :
    Calls Try.prog 39 #[v] w fun e w' => e = .returned (.bool (lRight l)) ∧ Below w.heap.size w w' := by
  obtain ⟨A, c, rfl, hlc, hA⟩ := hv
  have HA := Lib.hid hA
  have HOK := Lib.hid hok
  clear hA hok
  go_enter Try.func39, Try.ntmps39
  go_wp2
  go_loopw [3] (fun i wr => ∃ (k : Nat), k ≤ l.length ∧ i = .int .i64 k ∧ Below w.heap.size w wr ∧ (∀ j, j < k → okAt l j = true)) (fun i _ => l.length - (intOf i).toNat)
  case atStart => exact ⟨0, by omega, rfl, Below.refl _ _, fun j hj => absurd hj (by omega)⟩
  case round =>
    obtain ⟨k, hk, rfl, hbr, hall⟩ := hrel
    have HT := Lib.hid hall
    clear hall
    by_cases hlt : k < l.length
    · obtain ⟨b, off, rfl, hb, hx⟩ := HA.out (by omega)
      obtain ⟨x, hxk⟩ : ∃ x, l[k]? = some x := ⟨l[k], List.getElem?_eq_getElem hlt⟩
      have hxo : Hid x.ok := HOK.out k x hxk
      have hlx : ∀ W, Below w.heap.size w W → (ldOp 67 (.pointer (some ⟨b, off + k * 21, none⟩))).run Try.prog W = .ok (.value (.agg (encA x))) W := fun W hW => ld67 W b (off + k * 21) (encA x) rfl (fun j hj => ((bcB hW).1 _ _ hb).trans (hx k x hxk j hj))
      have h0k : (0 : Int) ≤ (k : Int) := by omega
      cases hr : x.right
      · have HR := Lib.hid hr
        have HF : Hid (lRight l = false) := allB_false k hlt (by
          cases k with
          | zero => rw [okAt_zero hxk]; exact hr
          | succ m => rw [okAt_succ (p := l[m]) (List.getElem?_eq_getElem (by omega)) hxk, hr]; rfl)
        clear hx hxk HA hr
        as_aux_lemma =>
          go_wp2_with fail
          refine wp_region_quiet (C := fun W => Below (w.heap.size) (w) W) (by kernel_rfl) (by kernel_rfl) (hbr.drew) ?_
          repeat
            (with_reducible refine wpQuiet_step (fun K hK => ?_)
             go_simp
             first
               | (refine hK _ ?_; clear hK K)
               | (apply Exists.intro
                  refine ⟨fun W hW => ?_, hK _ ?_⟩
                  (obtain ⟨hc, hf⟩ := bcB hW
                   first
                   | (go_simp; exact rfl)
                   | (go_simp; go_at_call 70; refine (right70 x hxo _).mono ?_; rintro e W2 ⟨rfl, hb⟩; exact ⟨by rw [HR.out], hW.trans (hb.mono hW.size)⟩))
                  clear hK K))
          refine wpQuiet_nil ?_
          intro w2 hb2
          obtain ⟨hc, hf⟩ := bcB hb2
          go_wp2
          go_ret
          exact ⟨by rw [HF.out]; rfl, hb2⟩
      · have HR := Lib.hid hr
        clear hr
        obtain rfl | ⟨m, rfl⟩ : k = 0 ∨ ∃ m, k = m + 1 := by cases k with | zero => exact .inl rfl | succ m => exact .inr ⟨m, rfl⟩
        · have HO : Hid (okAt l 0 = true) := by show okAt l 0 = true; rw [okAt_zero hxk]; exact HR.out
          clear hx hxk HA
          simp only [Nat.zero_mul, Nat.add_zero] at hlx
          as_aux_lemma =>
            go_wp2_with fail
            refine wp_region_quiet (C := fun W => Below (w.heap.size) (w) W) (by kernel_rfl) (by kernel_rfl) (hbr.drew) ?_
            repeat
              (with_reducible refine wpQuiet_step (fun K hK => ?_)
               go_simp
               first
                 | (refine hK _ ?_; clear hK K)
                 | (apply Exists.intro
                    refine ⟨fun W hW => ?_, hK _ ?_⟩
                    (obtain ⟨hc, hf⟩ := bcB hW
                     first
                     | (go_simp; exact rfl)
                     | (go_simp; go_at_call 70; refine (right70 x hxo _).mono ?_; rintro e W2 ⟨rfl, hb⟩; exact ⟨by rw [HR.out], hW.trans (hb.mono hW.size)⟩))
                    clear hK K))
            refine wpQuiet_nil ?_
            intro w2 hb2
            obtain ⟨hc, hf⟩ := bcB hb2
            go_wp2
            go_roundw
            case rel => exact ⟨1, by omega, rfl, hb2, fun j hj => by obtain rfl : j = 0 := by omega
                                                                     exact HO.out⟩
            case measure => simp [intOf]; omega
        · obtain ⟨p, hpk⟩ : ∃ p, l[m]? = some p := ⟨l[m], List.getElem?_eq_getElem (by omega)⟩
          have hpo : Hid p.ok := HOK.out m p hpk
          have hlp : ∀ W, Below w.heap.size w W → (ldOp 63 (.pointer (some ⟨b, off + m * 21, none⟩))).run Try.prog W = .ok (.value (.agg (encK p.k))) W := fun W hW => ld63 W b (off + m * 21) (encK p.k) rfl (fun j hj => ((bcB hW).1 _ _ hb).trans ((hx m p hpk j (by omega)).trans (keyCell p j hj)))
          have hlx2 : ∀ W, Below w.heap.size w W → (ldOp 63 (.pointer (some ⟨b, off + (m + 1) * 21, none⟩))).run Try.prog W = .ok (.value (.agg (encK x.k))) W := fun W hW => ld63 W b (off + (m + 1) * 21) (encK x.k) rfl (fun j hj => ((bcB hW).1 _ _ hb).trans ((hx (m + 1) x hxk j (by omega)).trans (keyCell x j hj)))
          have HO : Hid (okAt l (m + 1) = kLess p.k x.k) := by show okAt l (m + 1) = _; rw [okAt_succ hpk hxk, HR.out]; rfl
          have hmlt := hlt
          have hwm : IntKind.i64.wrap (m : Int) = m := by rw [IntKind.wrap_i64]; omega
          have hml : (0 : Int) ≤ (m : Int) ∧ (m : Int) < (l.length : Int) := by omega
          have h0m : (0 : Int) ≤ (m : Int) + 1 := by omega
          clear hx hxk hpk HA
          cases hls : kLess p.k x.k
          · have HF : Hid (lRight l = false) := allB_false (m + 1) hmlt (by rw [HO.out]; exact hls)
            have HL := Lib.hid hls
            clear hls
            as_aux_lemma =>
              go_wp2_with fail
              refine wp_region_quiet (C := fun W => Below (w.heap.size) (w) W) (by kernel_rfl) (by kernel_rfl) (hbr.drew) ?_
              repeat
                (with_reducible refine wpQuiet_step (fun K hK => ?_)
                 go_simp
                 first
                   | (refine hK _ ?_; clear hK K)
                   | (apply Exists.intro
                      refine ⟨fun W hW => ?_, hK _ ?_⟩
                      (obtain ⟨hc, hf⟩ := bcB hW
                       first
                       | (go_simp; exact rfl)
                       | (go_simp; go_at_call 70; refine (right70 x hxo _).mono ?_; rintro e W2 ⟨rfl, hb⟩; exact ⟨by rw [HR.out], hW.trans (hb.mono hW.size)⟩)
                       | (go_simp; go_at_call 71; refine (less71 p.k x.k hpo.out.1 hxo.out.1 _).mono ?_; rintro e W2 ⟨rfl, hb⟩; exact ⟨by rw [HL.out], hW.trans (hb.mono hW.size)⟩)
                       | (go_simp; rw [if_pos h0m]; exact rfl)
                       | (go_simp; rw [hwm, if_pos hml]; simp only [Int.toNat_natCast]; exact ⟨rfl, rfl⟩))
                      clear hK K))
              refine wpQuiet_nil ?_
              intro w2 hb2
              obtain ⟨hc, hf⟩ := bcB hb2
              go_wp2
              go_ret
              exact ⟨by rw [HF.out]; rfl, hb2⟩
          · have HL := Lib.hid hls
            clear hls
            as_aux_lemma =>
              go_wp2_with fail
              refine wp_region_quiet (C := fun W => Below (w.heap.size) (w) W) (by kernel_rfl) (by kernel_rfl) (hbr.drew) ?_
              repeat
                (with_reducible refine wpQuiet_step (fun K hK => ?_)
                 go_simp
                 first
                   | (refine hK _ ?_; clear hK K)
                   | (apply Exists.intro
                      refine ⟨fun W hW => ?_, hK _ ?_⟩
                      (obtain ⟨hc, hf⟩ := bcB hW
                       first
                       | (go_simp; exact rfl)
                       | (go_simp; go_at_call 70; refine (right70 x hxo _).mono ?_; rintro e W2 ⟨rfl, hb⟩; exact ⟨by rw [HR.out], hW.trans (hb.mono hW.size)⟩)
                       | (go_simp; go_at_call 71; refine (less71 p.k x.k hpo.out.1 hxo.out.1 _).mono ?_; rintro e W2 ⟨rfl, hb⟩; exact ⟨by rw [HL.out], hW.trans (hb.mono hW.size)⟩)
                       | (go_simp; rw [if_pos h0m]; exact rfl)
                       | (go_simp; rw [hwm, if_pos hml]; simp only [Int.toNat_natCast]; exact ⟨rfl, rfl⟩))
                      clear hK K))
              refine wpQuiet_nil ?_
              intro w2 hb2
              obtain ⟨hc, hf⟩ := bcB hb2
              go_wp2
              go_roundw
              case rel => exact ⟨m + 2, by omega, by go_num, hb2, fun j hj => by
                by_cases e : j = m + 1
                · rw [e, HO.out]; exact HL.out
                · exact HT.out j (by omega)⟩
              case measure => simp [intOf]; omega
    · obtain rfl : k = l.length := by omega
      go_wp2
      go_ret
      exact ⟨by rw [show lRight l = true from allB_true.2 HT.out]; rfl, hbr⟩
end Go.Proofs.Ythnhlbikfidpnaa
