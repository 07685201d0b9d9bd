/- The document's Is, Pad and Right of names. -/
import Derived.Test.YthnhlbikfidpnaaB
namespace Go.Proofs.Ythnhlbikfidpnaa
open Go.RowKit
set_option maxHeartbeats 400000
set_option maxRecDepth 100000

def byteAt (s : ByteArray) (j : Nat) : Int := ((s.data.toList.getD j 0).toNat : Int)
theorem byteAt_get (s : ByteArray) (j : Nat) (h : j < s.size) : byteAt s j = (s[j].toNat : Int) := by
  unfold byteAt
  have h' : j < s.data.toList.length := by simpa using h
  simp [List.getD, List.getElem?_eq_getElem h']; rfl
def nameStr (s : ByteArray) : Bool := decide (1 ≤ s.size) && decide (s.size ≤ 8) && isLetter (byteAt s 0) && allB (fun j => isOther (byteAt s j)) s.size
theorem is104 (s : ByteArray) (w : World) (hsz : s.size ≤ 1000) :
    Calls Try.prog 104 #[.string s] w fun e w' => e = .returned (.bool (nameStr s)) ∧ w = w' := by
  by_cases h1 : s.size < 1
  · go_enter Try.func104, Try.ntmps104
    go_wp2
    go_ret
    exact ⟨by simp [nameStr]; omega, rfl⟩
  by_cases h2 : 8 < s.size
  · go_enter Try.func104, Try.ntmps104
    go_wp2
    go_ret
    exact ⟨by simp [nameStr]; omega, rfl⟩
  have hd1 : decide ((s.size : Int) < 1) = false := by simp; omega
  have hd2 : decide ((8 : Int) < s.size) = false := by simp; omega
  have hb0 := byteAt_get s 0 (by omega)
  cases hl : isLetter (s[0].toNat : Int)
  · have HL := Lib.hid hl
    have HB := Lib.hid hb0
    clear hl hb0
    go_enter Try.func104, Try.ntmps104
    go_wp2_with fail
    refine (letter120 _ _).mono ?_
    rintro e w' ⟨rfl, rfl⟩
    rw [HL.out]
    go_wp2
    go_ret
    exact ⟨by simp [nameStr, HB.out, HL.out], rfl⟩
  · have HL := Lib.hid hl
    have HB := Lib.hid hb0
    clear hl hb0
    go_enter Try.func104, Try.ntmps104
    go_wp2_with fail
    refine (letter120 _ _).mono ?_
    rintro e w' ⟨rfl, rfl⟩
    rw [HL.out]
    go_wp2
    go_loop [3] (fun i => ∃ k : Nat, k ≤ s.size ∧ i = .int .i64 k ∧ ∀ j, j < k → isOther (byteAt s j) = true) (fun i => s.size - (intOf i).toNat)
    case atStart => exact ⟨0, by omega, rfl, fun j hj => absurd hj (by omega)⟩
    case round =>
      obtain ⟨k, hk, rfl, hall⟩ := hrel
      have HA := Lib.hid hall
      clear hall
      by_cases hlt : k < s.size
      · have hbk := Lib.hid (byteAt_get s k hlt)
        cases hg : isOther (s[k].toNat : Int)
        · have HG := Lib.hid hg
          clear hg
          go_wp2_with fail
          refine (other121 _ _).mono ?_
          rintro e w' ⟨rfl, rfl⟩
          rw [HG.out]
          go_wp2
          go_ret
          have h3 : allB (fun j => isOther (byteAt s j)) s.size = false := allB_false k hlt (by show isOther (byteAt s k) = false; rw [hbk.out]; exact HG.out)
          exact ⟨by simp [nameStr, h3], rfl⟩
        · have HG := Lib.hid hg
          clear hg
          go_wp2_with fail
          refine (other121 _ _).mono ?_
          rintro e w' ⟨rfl, rfl⟩
          rw [HG.out]
          go_wp2
          go_round
          case rel => exact ⟨k + 1, by omega, by go_num, fun j hj => by
            by_cases e : j = k
            · rw [e, hbk.out]; exact HG.out
            · exact HA.out j (by omega)⟩
          case measure => simp [intOf]; omega
      · obtain rfl : k = s.size := by omega
        go_wp2
        go_ret
        have h3 : allB (fun j => isOther (byteAt s j)) s.size = true := allB_true.2 HA.out
        refine ⟨?_, rfl⟩
        simp [nameStr, HB.out, HL.out, h3]
        omega

def padTo (s : ByteArray) (m : Nat) : Nm := ⟨if 0 < m then byteAt s 0 else 0, if 1 < m then byteAt s 1 else 0, if 2 < m then byteAt s 2 else 0, if 3 < m then byteAt s 3 else 0, if 4 < m then byteAt s 4 else 0, if 5 < m then byteAt s 5 else 0, if 6 < m then byteAt s 6 else 0, if 7 < m then byteAt s 7 else 0⟩
theorem pad106 (s : ByteArray) (w : World) (hsz : s.size ≤ 8) :
    Calls Try.prog 106 #[.string s] w fun e w' => e = .returned (.agg (encN (padTo s s.size))) ∧ Below w.heap.size w w' := by
  go_enter Try.func106, Try.ntmps106
  go_wp2
  go_loopw [4] (fun i wr => ∃ (j : Int) (m : Nat), 0 ≤ j ∧ j ≤ s.size ∧ m = j ∧ i = .int .i64 j ∧ wr = (w.alloc (.cells (encN nm0) 61)).alloc (.cells (encN (padTo s m)) 61)) (fun i _ => 8 - (intOf i).toNat)
  case atStart => exact ⟨0, 0, by omega, by omega, rfl, rfl, rfl⟩
  case round =>
    obtain ⟨j, m, hj0, hj, hm, rfl, rfl⟩ := hrel
    obtain hlt | heq : j < s.size ∨ j = s.size := by omega
    · have hj8 : j < 8 := by omega
      obtain rfl | rfl | rfl | rfl | rfl | rfl | rfl | rfl := (show j = 0 ∨ j = 1 ∨ j = 2 ∨ j = 3 ∨ j = 4 ∨ j = 5 ∨ j = 6 ∨ j = 7 by omega)
      · obtain rfl : m = 0 := by omega
        have hlt0 : 0 < s.size := by clear hj; omega
        have hb := Lib.hid (byteAt_get s 0 hlt0)
        have hlt' : Hid ((0 : Int) < s.size) := hlt
        have hd1 : decide ((0 : Int) < s.size) = true := by simpa using hlt
        clear hj0 hj hj8 hm
        go_wp2
        go_roundw
        case rel => exact ⟨1, 1, by omega, by have := hlt'.out; omega, rfl, rfl, by simp [padTo, hb.out]⟩
        case measure => simp [intOf]
      · obtain rfl : m = 1 := by omega
        have hlt0 : 1 < s.size := by clear hj; omega
        have hb := Lib.hid (byteAt_get s 1 hlt0)
        have hlt' : Hid ((1 : Int) < s.size) := hlt
        have hd1 : decide ((1 : Int) < s.size) = true := by simpa using hlt
        clear hj0 hj hj8 hm
        go_wp2
        go_roundw
        case rel => exact ⟨2, 2, by omega, by have := hlt'.out; omega, rfl, rfl, by simp [padTo, hb.out]⟩
        case measure => simp [intOf]
      · obtain rfl : m = 2 := by omega
        have hlt0 : 2 < s.size := by clear hj; omega
        have hb := Lib.hid (byteAt_get s 2 hlt0)
        have hlt' : Hid ((2 : Int) < s.size) := hlt
        have hd1 : decide ((2 : Int) < s.size) = true := by simpa using hlt
        clear hj0 hj hj8 hm
        go_wp2
        go_roundw
        case rel => exact ⟨3, 3, by omega, by have := hlt'.out; omega, rfl, rfl, by simp [padTo, hb.out]⟩
        case measure => simp [intOf]
      · obtain rfl : m = 3 := by omega
        have hlt0 : 3 < s.size := by clear hj; omega
        have hb := Lib.hid (byteAt_get s 3 hlt0)
        have hlt' : Hid ((3 : Int) < s.size) := hlt
        have hd1 : decide ((3 : Int) < s.size) = true := by simpa using hlt
        clear hj0 hj hj8 hm
        go_wp2
        go_roundw
        case rel => exact ⟨4, 4, by omega, by have := hlt'.out; omega, rfl, rfl, by simp [padTo, hb.out]⟩
        case measure => simp [intOf]
      · obtain rfl : m = 4 := by omega
        have hlt0 : 4 < s.size := by clear hj; omega
        have hb := Lib.hid (byteAt_get s 4 hlt0)
        have hlt' : Hid ((4 : Int) < s.size) := hlt
        have hd1 : decide ((4 : Int) < s.size) = true := by simpa using hlt
        clear hj0 hj hj8 hm
        go_wp2
        go_roundw
        case rel => exact ⟨5, 5, by omega, by have := hlt'.out; omega, rfl, rfl, by simp [padTo, hb.out]⟩
        case measure => simp [intOf]
      · obtain rfl : m = 5 := by omega
        have hlt0 : 5 < s.size := by clear hj; omega
        have hb := Lib.hid (byteAt_get s 5 hlt0)
        have hlt' : Hid ((5 : Int) < s.size) := hlt
        have hd1 : decide ((5 : Int) < s.size) = true := by simpa using hlt
        clear hj0 hj hj8 hm
        go_wp2
        go_roundw
        case rel => exact ⟨6, 6, by omega, by have := hlt'.out; omega, rfl, rfl, by simp [padTo, hb.out]⟩
        case measure => simp [intOf]
      · obtain rfl : m = 6 := by omega
        have hlt0 : 6 < s.size := by clear hj; omega
        have hb := Lib.hid (byteAt_get s 6 hlt0)
        have hlt' : Hid ((6 : Int) < s.size) := hlt
        have hd1 : decide ((6 : Int) < s.size) = true := by simpa using hlt
        clear hj0 hj hj8 hm
        go_wp2
        go_roundw
        case rel => exact ⟨7, 7, by omega, by have := hlt'.out; omega, rfl, rfl, by simp [padTo, hb.out]⟩
        case measure => simp [intOf]
      · obtain rfl : m = 7 := by omega
        have hlt0 : 7 < s.size := by clear hj; omega
        have hb := Lib.hid (byteAt_get s 7 hlt0)
        have hlt' : Hid ((7 : Int) < s.size) := hlt
        have hd1 : decide ((7 : Int) < s.size) = true := by simpa using hlt
        clear hj0 hj hj8 hm
        go_wp2
        go_roundw
        case rel => exact ⟨8, 8, by omega, by have := hlt'.out; omega, rfl, rfl, by simp [padTo, hb.out]⟩
        case measure => simp [intOf]
    · obtain rfl : m = s.size := by omega
      subst heq
      clear hm hj0 hj
      have hd1 : decide ((s.size : Int) < s.size) = false := by simp
      go_wp2
      exact bodyPost_ret (v := .agg (encN (padTo s s.size))) (by simp [results, Try.results106, go_sem]) rfl ⟨rfl, ((Below.refl _ _).alloc (Nat.le_refl _) _).alloc (by simp) _⟩

theorem Nm.txt_byte (n : Nm) (hn : n.ok) (k j : Nat) (hj : j < k) : byteAt (n.txt k) j = n.get j := by
  have h := Nm.get_ok hn j
  unfold byteAt Nm.txt
  rw [strOfNums_data]
  simp [List.getD, hj]
  omega
theorem Nm.pad_txt (n : Nm) (hn : n.ok) (k : Nat) (hs : n.isSize k) : padTo (n.txt k) k = n ↔ allB (fun j => isZero (n.get (k + j))) (8 - k) = true := by
  have hb := fun j hj => n.txt_byte hn k j hj
  rw [allB_true]
  obtain ⟨c0, c1, c2, c3, c4, c5, c6, c7⟩ := n
  have hk := hs.1
  obtain rfl | rfl | rfl | rfl | rfl | rfl | rfl | rfl | rfl := (show k = 0 ∨ k = 1 ∨ k = 2 ∨ k = 3 ∨ k = 4 ∨ k = 5 ∨ k = 6 ∨ k = 7 ∨ k = 8 by omega)
  all_goals
    simp only [padTo, hb, Nm.get, isZero, Nat.lt_irrefl, Nat.reduceLT, if_true, if_false, Nm.mk.injEq, beq_iff_eq, Nat.reduceSub]
    constructor
    · intro h j hj
      obtain rfl | rfl | rfl | rfl | rfl | rfl | rfl | rfl := (show j = 0 ∨ j = 1 ∨ j = 2 ∨ j = 3 ∨ j = 4 ∨ j = 5 ∨ j = 6 ∨ j = 7 by omega)
      all_goals first | (show c0 = 0; omega) | (show c1 = 0; omega) | (show c2 = 0; omega) | (show c3 = 0; omega) | (show c4 = 0; omega) | (show c5 = 0; omega) | (show c6 = 0; omega) | (show c7 = 0; omega) | (exfalso; omega)
    · intro h
      repeat' apply And.intro
      all_goals first | trivial | (refine (h 0 ?_).symm; omega) | (refine (h 1 ?_).symm; omega) | (refine (h 2 ?_).symm; omega) | (refine (h 3 ?_).symm; omega) | (refine (h 4 ?_).symm; omega) | (refine (h 5 ?_).symm; omega) | (refine (h 6 ?_).symm; omega) | (refine (h 7 ?_).symm; omega)
theorem Nm.right_txt (n : Nm) (hn : n.ok) (k : Nat) (hs : n.isSize k) : n.right = (nameStr (n.txt k) && decide (padTo (n.txt k) k = n)) := by
  rw [n.right_of k hs]
  have h1 : decide (padTo (n.txt k) k = n) = allB (fun j => isZero (n.get (k + j))) (8 - k) := by
    rw [Bool.eq_iff_iff, decide_eq_true_eq]; exact n.pad_txt hn k hs
  rw [h1]
  congr 1
  unfold nameStr
  rw [Nm.txt_size]
  have hb := fun j hj => n.txt_byte hn k j hj
  have h2 : allB (fun j => isOther (byteAt (n.txt k) j)) k = allB (fun j => isOther (n.get j)) k := by
    rw [Bool.eq_iff_iff, allB_true, allB_true]
    constructor
    · intro h j hj; have := h j hj; rwa [hb j hj] at this
    · intro h j hj; rw [hb j hj]; exact h j hj
  rw [h2]
  have hk := hs.1
  by_cases h0 : k = 0
  · subst h0
    have hz := hs.2.2 (by omega)
    have : isLetter n.c0 = false := by
      have : n.c0 = 0 := hz
      rw [this]; rfl
    simp [this]
  · have hle : decide (1 ≤ k) = true := by simp; omega
    have hle2 : decide (k ≤ 8) = true := by simpa using hk
    rw [hle, hle2, hb 0 (by omega)]
    rfl

theorem right81 (n : Nm) (hn : Hid n.ok) (w : World) :
    Calls Try.prog 81 #[.agg (encN n)] w fun e w' => e = .returned (.bool n.right) ∧ Below w.heap.size w w' := by
  have HS := Lib.hid n.size_is
  generalize n.size = k at *
  have HR := Lib.hid (n.right_txt hn.out k HS)
  cases hl : nameStr (n.txt k)
  · have HL := Lib.hid hl
    clear hl
    go_enter Try.func81, Try.ntmps81
    go_wp2_with fail
    refine wp_region_quiet (C := fun W => Below (w.heap.size + 1) (w.alloc (.cells (encN n) 61)) W) (by kernel_rfl) (by kernel_rfl) ((Below.refl _ _).drew) ?_
    repeat
      (refine wpQuiet_step (fun K hK => ?_)
       go_simp
       first
         | (refine hK _ ?_; clear hK K)
         | (apply Exists.intro
            refine ⟨fun W hW => ?_, hK _ ?_⟩
            (obtain ⟨hc, hf⟩ := bcB hW
             first
             | (go_simp; exact rfl)
             | (go_simp; go_at_call 105; refine (text105 n k HS _).mono ?_; rintro e W2 ⟨rfl, hb⟩; exact ⟨rfl, hW.trans (hb.mono (by have := hW.size; simpa using this))⟩)
             | (go_simp; go_at_call 104; refine (is104 _ _ (by rw [Nm.txt_size]; have := HS.out.1; omega)).mono ?_; rintro e W2 ⟨rfl, rfl⟩; exact ⟨by rw [HL.out], hW⟩))
            clear hK K))
    refine wpQuiet_nil ?_
    intro w2 hb2
    obtain ⟨hc, hf⟩ := bcB hb2
    go_wp2
    go_ret
    exact ⟨by rw [HR.out, HL.out]; rfl, ((Below.refl _ _).alloc (Nat.le_refl _) _).trans (hb2.mono (Nat.le_succ _))⟩
  · have HL := Lib.hid hl
    clear hl
    have he : ∀ W, (Op.equalIn 10000 61 (.agg #[.int .u8 (padTo (n.txt k) k).c0, .int .u8 (padTo (n.txt k) k).c1, .int .u8 (padTo (n.txt k) k).c2, .int .u8 (padTo (n.txt k) k).c3, .int .u8 (padTo (n.txt k) k).c4, .int .u8 (padTo (n.txt k) k).c5, .int .u8 (padTo (n.txt k) k).c6, .int .u8 (padTo (n.txt k) k).c7]) (.agg #[.int .u8 n.c0, .int .u8 n.c1, .int .u8 n.c2, .int .u8 n.c3, .int .u8 n.c4, .int .u8 n.c5, .int .u8 n.c6, .int .u8 n.c7])).run Try.prog W = .ok (decide (padTo (n.txt k) k = n)) W := fun W => equalIn61 9998 (padTo (n.txt k) k) n W
    go_enter Try.func81, Try.ntmps81
    go_wp2_with fail
    refine wp_region_quiet (C := fun W => Below (w.heap.size + 1) (w.alloc (.cells (encN n) 61)) W) (by kernel_rfl) (by kernel_rfl) ((Below.refl _ _).drew) ?_
    repeat
      (refine wpQuiet_step (fun K hK => ?_)
       go_simp
       first
         | (refine hK _ ?_; clear hK K)
         | (apply Exists.intro
            refine ⟨fun W hW => ?_, hK _ ?_⟩
            (obtain ⟨hc, hf⟩ := bcB hW
             first
             | (go_simp; exact rfl)
             | (go_simp; go_at_call 105; refine (text105 n k HS _).mono ?_; rintro e W2 ⟨rfl, hb⟩; exact ⟨rfl, hW.trans (hb.mono (by have := hW.size; simpa using this))⟩)
             | (go_simp; go_at_call 104; refine (is104 _ _ (by rw [Nm.txt_size]; have := HS.out.1; omega)).mono ?_; rintro e W2 ⟨rfl, rfl⟩; exact ⟨by rw [HL.out], hW⟩)
             | (go_simp; go_at_call 106; refine (pad106 _ _ (by rw [Nm.txt_size]; exact HS.out.1)).mono ?_; rintro e W2 ⟨rfl, hb⟩; exact ⟨by rw [Nm.txt_size], hW.trans (hb.mono (by have := hW.size; simpa using this))⟩))
            clear hK K))
    refine wpQuiet_nil ?_
    intro w2 hb2
    obtain ⟨hc, hf⟩ := bcB hb2
    go_wp2
    go_ret
    exact ⟨by rw [HR.out, HL.out]; rfl, ((Below.refl _ _).alloc (Nat.le_refl _) _).trans (hb2.mono (Nat.le_succ _))⟩

end Go.Proofs.Ythnhlbikfidpnaa
