/- Which keys, values and atoms are right. -/
import Derived.Test.YthnhlbikfidpnaaD
namespace Go.Proofs.Ythnhlbikfidpnaa
open Go.RowKit
set_option maxHeartbeats 400000
set_option maxRecDepth 100000

def Ky.right (k : Ky) : Bool :=
  if k.sort = 4 then decide (k = ⟨k.sort, k.cart, nm0, 0, 0⟩)
  else if k.sort = 1 then k.seq != 0 && k.item.right && decide (k.rep < 16)
  else if k.sort = 2 ∨ k.sort = 3 then k.seq == 0 && k.item.right && decide (k.rep < 16)
  else false
theorem Ky.right4 {k : Ky} (h : k.sort = 4) : k.right = decide (k = ⟨k.sort, k.cart, nm0, 0, 0⟩) := by unfold Ky.right; rw [if_pos h]
theorem Ky.right1 {k : Ky} (h : k.sort = 1) : k.right = (k.seq != 0 && k.item.right && decide (k.rep < 16)) := by unfold Ky.right; rw [if_neg (by omega), if_pos h]
theorem Ky.right23 {k : Ky} (h : k.sort = 2 ∨ k.sort = 3) : k.right = (k.seq == 0 && k.item.right && decide (k.rep < 16)) := by unfold Ky.right; rw [if_neg (by omega), if_neg (by omega), if_pos h]
theorem Ky.right0 {k : Ky} (h4 : k.sort ≠ 4) (h1 : k.sort ≠ 1) (h2 : k.sort ≠ 2) (h3 : k.sort ≠ 3) : k.right = false := by unfold Ky.right; rw [if_neg h4, if_neg h1, if_neg (by omega)]

theorem right93 (k : Ky) (w : World) :
    Calls Try.prog 93 #[.agg (encK k)] w fun e w' => e = .returned (.bool k.right) ∧ Below w.heap.size w w' := by
  by_cases h4 : k.sort = 4
  · have HR := Lib.hid (Ky.right4 h4)
    have hd : (k.sort == 4) = true := by simpa using h4
    have he : ∀ W, (Op.equalIn 10000 63 (.agg #[.int .u8 k.sort, .int .u16 k.cart, .int .u8 k.item.c0, .int .u8 k.item.c1, .int .u8 k.item.c2, .int .u8 k.item.c3, .int .u8 k.item.c4, .int .u8 k.item.c5, .int .u8 k.item.c6, .int .u8 k.item.c7, .int .u8 k.rep, .int .u32 k.seq]) (.agg #[.int .u8 k.sort, .int .u16 k.cart, .int .u8 0, .int .u8 0, .int .u8 0, .int .u8 0, .int .u8 0, .int .u8 0, .int .u8 0, .int .u8 0, .int .u8 0, .int .u32 0])).run Try.prog W = .ok (decide (k = ⟨k.sort, k.cart, nm0, 0, 0⟩)) W := fun W => equalIn63 9997 k ⟨k.sort, k.cart, nm0, 0, 0⟩ W
    clear h4
    go_enter Try.func93, Try.ntmps93
    go_wp2
    go_ret
    exact ⟨by rw [HR.out]; rfl, ((Below.refl _ _).alloc (Nat.le_refl _) _).alloc (by simp) _⟩
  by_cases h1 : k.sort = 1
  · have HR := Lib.hid (Ky.right1 h1)
    have hd4 : (k.sort == 4) = false := by simpa using h4
    have hd1 : (k.sort == 1) = true := by simpa using h1
    clear h4 h1
    cases hq : (k.seq != 0)
    · have HQ := Lib.hid hq
      go_enter Try.func93, Try.ntmps93
      go_wp2
      go_ret
      exact ⟨by rw [HR.out, HQ.out]; rfl, ((Below.refl _ _).alloc (Nat.le_refl _) _).alloc (by simp) _⟩
    · have HQ := Lib.hid hq
      cases hn : k.item.right
      · have HN := Lib.hid hn
        clear hn
        go_enter Try.func93, Try.ntmps93
        go_wp2_with fail
        refine (right75 k.item _).mono ?_
        rintro e w1 ⟨rfl, hb⟩
        obtain ⟨hc, hf⟩ := bcell hb
        rw [HN.out]
        go_wp2
        go_ret
        exact ⟨by rw [HR.out, HQ.out, HN.out]; rfl, (((Below.refl _ _).alloc (Nat.le_refl _) _).alloc (by simp) _).trans (hb.mono (by simp; omega))⟩
      · have HN := Lib.hid hn
        clear hn
        go_enter Try.func93, Try.ntmps93
        go_wp2_with fail
        refine (right75 k.item _).mono ?_
        rintro e w1 ⟨rfl, hb⟩
        obtain ⟨hc, hf⟩ := bcell hb
        rw [HN.out]
        go_wp2
        go_ret
        exact ⟨by rw [HR.out, HQ.out, HN.out]; rfl, (((Below.refl _ _).alloc (Nat.le_refl _) _).alloc (by simp) _).trans (hb.mono (by simp; omega))⟩
  by_cases h2 : k.sort = 2
  · have HR := Lib.hid (Ky.right23 (k := k) (by omega))
    have hd4 : (k.sort == 4) = false := by simpa using h4
    have hd1 : (k.sort == 1) = false := by simpa using h1
    have hd2 : (k.sort == 2) = true := by simpa using h2
    clear h4 h1 h2
    cases hq : (k.seq == 0)
    · have HQ := Lib.hid hq
      go_enter Try.func93, Try.ntmps93
      go_wp2
      go_ret
      exact ⟨by rw [HR.out, HQ.out]; rfl, ((Below.refl _ _).alloc (Nat.le_refl _) _).alloc (by simp) _⟩
    · have HQ := Lib.hid hq
      cases hn : k.item.right
      · have HN := Lib.hid hn
        clear hn
        go_enter Try.func93, Try.ntmps93
        go_wp2_with fail
        refine (right75 k.item _).mono ?_
        rintro e w1 ⟨rfl, hb⟩
        obtain ⟨hc, hf⟩ := bcell hb
        rw [HN.out]
        go_wp2
        go_ret
        exact ⟨by rw [HR.out, HQ.out, HN.out]; rfl, (((Below.refl _ _).alloc (Nat.le_refl _) _).alloc (by simp) _).trans (hb.mono (by simp; omega))⟩
      · have HN := Lib.hid hn
        clear hn
        go_enter Try.func93, Try.ntmps93
        go_wp2_with fail
        refine (right75 k.item _).mono ?_
        rintro e w1 ⟨rfl, hb⟩
        obtain ⟨hc, hf⟩ := bcell hb
        rw [HN.out]
        go_wp2
        go_ret
        exact ⟨by rw [HR.out, HQ.out, HN.out]; rfl, (((Below.refl _ _).alloc (Nat.le_refl _) _).alloc (by simp) _).trans (hb.mono (by simp; omega))⟩
  by_cases h3 : k.sort = 3
  · have HR := Lib.hid (Ky.right23 (k := k) (by omega))
    have hd4 : (k.sort == 4) = false := by simpa using h4
    have hd1 : (k.sort == 1) = false := by simpa using h1
    have hd2 : (k.sort == 2) = false := by simpa using h2
    have hd3 : (k.sort == 3) = true := by simpa using h3
    clear h4 h1 h2
    clear h3
    cases hq : (k.seq == 0)
    · have HQ := Lib.hid hq
      go_enter Try.func93, Try.ntmps93
      go_wp2
      go_ret
      exact ⟨by rw [HR.out, HQ.out]; rfl, ((Below.refl _ _).alloc (Nat.le_refl _) _).alloc (by simp) _⟩
    · have HQ := Lib.hid hq
      cases hn : k.item.right
      · have HN := Lib.hid hn
        clear hn
        go_enter Try.func93, Try.ntmps93
        go_wp2_with fail
        refine (right75 k.item _).mono ?_
        rintro e w1 ⟨rfl, hb⟩
        obtain ⟨hc, hf⟩ := bcell hb
        rw [HN.out]
        go_wp2
        go_ret
        exact ⟨by rw [HR.out, HQ.out, HN.out]; rfl, (((Below.refl _ _).alloc (Nat.le_refl _) _).alloc (by simp) _).trans (hb.mono (by simp; omega))⟩
      · have HN := Lib.hid hn
        clear hn
        go_enter Try.func93, Try.ntmps93
        go_wp2_with fail
        refine (right75 k.item _).mono ?_
        rintro e w1 ⟨rfl, hb⟩
        obtain ⟨hc, hf⟩ := bcell hb
        rw [HN.out]
        go_wp2
        go_ret
        exact ⟨by rw [HR.out, HQ.out, HN.out]; rfl, (((Below.refl _ _).alloc (Nat.le_refl _) _).alloc (by simp) _).trans (hb.mono (by simp; omega))⟩
  · have HR := Lib.hid (Ky.right0 h4 h1 h2 h3)
    have hd4 : (k.sort == 4) = false := by simpa using h4
    have hd1 : (k.sort == 1) = false := by simpa using h1
    have hd2 : (k.sort == 2) = false := by simpa using h2
    have hd3 : (k.sort == 3) = false := by simpa using h3
    clear h4 h1 h2 h3
    go_enter Try.func93, Try.ntmps93
    go_wp2
    go_ret
    exact ⟨by rw [HR.out]; rfl, ((Below.refl _ _).alloc (Nat.le_refl _) _).alloc (by simp) _⟩

theorem right97 (k : Ky) (hk : Hid k.ok) (w : World) :
    Calls Try.prog 97 #[.agg (encK k)] w fun e w' => e = .returned (.bool k.right) ∧ Below w.heap.size w w' := by
  by_cases h1 : k.sort = 1
  · have HR := Lib.hid (Ky.right1 h1)
    have hseq := hk.out.2.2.2.2.1
    have hd1 : (k.sort == 1) = true := by simpa using h1
    clear h1
    cases hn : k.item.right
    · have HN := Lib.hid hn
      clear hn
      go_enter Try.func97, Try.ntmps97
      go_wp2_with fail
      refine (right81 k.item hk.out.2.2.1 _).mono ?_
      rintro e w1 ⟨rfl, hb⟩
      obtain ⟨hc, hf⟩ := bcell hb
      rw [HN.out]
      go_wp2
      go_ret
      exact ⟨by rw [HR.out, HN.out]; simp, ((Below.refl _ _).alloc (Nat.le_refl _) _).trans (hb.mono (by simp))⟩
    · have HN := Lib.hid hn
      clear hn
      go_enter Try.func97, Try.ntmps97
      go_wp2_with fail
      refine (right81 k.item hk.out.2.2.1 _).mono ?_
      rintro e w1 ⟨rfl, hb⟩
      obtain ⟨hc, hf⟩ := bcell hb
      rw [HN.out]
      go_wp2
      all_goals go_ret
      all_goals exact ⟨by rw [HR.out, HN.out]; first | (simp; omega) | (simp; rw [Bool.eq_iff_iff]; simp; omega), ((Below.refl _ _).alloc (Nat.le_refl _) _).trans (hb.mono (by simp))⟩
  by_cases h2 : k.sort = 2
  · have HR := Lib.hid (Ky.right23 (k := k) (by omega))
    have hseq := hk.out.2.2.2.2.1
    have hd1 : (k.sort == 1) = false := by simpa using h1
    have hd2 : (k.sort == 2) = true := by simpa using h2
    clear h1 h2
    cases hn : k.item.right
    · have HN := Lib.hid hn
      clear hn
      go_enter Try.func97, Try.ntmps97
      go_wp2_with fail
      refine (right81 k.item hk.out.2.2.1 _).mono ?_
      rintro e w1 ⟨rfl, hb⟩
      obtain ⟨hc, hf⟩ := bcell hb
      rw [HN.out]
      go_wp2
      go_ret
      exact ⟨by rw [HR.out, HN.out]; simp, ((Below.refl _ _).alloc (Nat.le_refl _) _).trans (hb.mono (by simp))⟩
    · have HN := Lib.hid hn
      clear hn
      go_enter Try.func97, Try.ntmps97
      go_wp2_with fail
      refine (right81 k.item hk.out.2.2.1 _).mono ?_
      rintro e w1 ⟨rfl, hb⟩
      obtain ⟨hc, hf⟩ := bcell hb
      rw [HN.out]
      go_wp2
      all_goals go_ret
      all_goals exact ⟨by rw [HR.out, HN.out]; first | (simp; omega) | (simp; rw [Bool.eq_iff_iff]; simp; omega), ((Below.refl _ _).alloc (Nat.le_refl _) _).trans (hb.mono (by simp))⟩
  by_cases h3 : k.sort = 3
  · have HR := Lib.hid (Ky.right23 (k := k) (by omega))
    have hseq := hk.out.2.2.2.2.1
    have hd1 : (k.sort == 1) = false := by simpa using h1
    have hd2 : (k.sort == 2) = false := by simpa using h2
    have hd3 : (k.sort == 3) = true := by simpa using h3
    clear h1 h2 h3
    cases hn : k.item.right
    · have HN := Lib.hid hn
      clear hn
      go_enter Try.func97, Try.ntmps97
      go_wp2_with fail
      refine (right81 k.item hk.out.2.2.1 _).mono ?_
      rintro e w1 ⟨rfl, hb⟩
      obtain ⟨hc, hf⟩ := bcell hb
      rw [HN.out]
      go_wp2
      go_ret
      exact ⟨by rw [HR.out, HN.out]; simp, ((Below.refl _ _).alloc (Nat.le_refl _) _).trans (hb.mono (by simp))⟩
    · have HN := Lib.hid hn
      clear hn
      go_enter Try.func97, Try.ntmps97
      go_wp2_with fail
      refine (right81 k.item hk.out.2.2.1 _).mono ?_
      rintro e w1 ⟨rfl, hb⟩
      obtain ⟨hc, hf⟩ := bcell hb
      rw [HN.out]
      go_wp2
      all_goals go_ret
      all_goals exact ⟨by rw [HR.out, HN.out]; first | (simp; omega) | (simp; rw [Bool.eq_iff_iff]; simp; omega), ((Below.refl _ _).alloc (Nat.le_refl _) _).trans (hb.mono (by simp))⟩
  by_cases h4 : k.sort = 4
  · have HR := Lib.hid (Ky.right4 h4)
    have h44 : (⟨4, k.cart, nm0, 0, 0⟩ : Ky) = ⟨k.sort, k.cart, nm0, 0, 0⟩ := by rw [h4]
    have he : ∀ W, (Op.equalIn 10000 63 (.agg #[.int .u8 k.sort, .int .u16 k.cart, .int .u8 k.item.c0, .int .u8 k.item.c1, .int .u8 k.item.c2, .int .u8 k.item.c3, .int .u8 k.item.c4, .int .u8 k.item.c5, .int .u8 k.item.c6, .int .u8 k.item.c7, .int .u8 k.rep, .int .u32 k.seq]) (.agg #[.int .u8 4, .int .u16 k.cart, .int .u8 0, .int .u8 0, .int .u8 0, .int .u8 0, .int .u8 0, .int .u8 0, .int .u8 0, .int .u8 0, .int .u8 0, .int .u32 0])).run Try.prog W = .ok (decide (k = ⟨k.sort, k.cart, nm0, 0, 0⟩)) W := fun W => (equalIn63 9997 k ⟨4, k.cart, nm0, 0, 0⟩ W).trans (by rw [h44])
    have hd1 : (k.sort == 1) = false := by simpa using h1
    have hd2 : (k.sort == 2) = false := by simpa using h2
    have hd3 : (k.sort == 3) = false := by simpa using h3
    have hd4 : (k.sort == 4) = true := by simpa using h4
    clear h1 h2 h3 h4 h44
    go_enter Try.func97, Try.ntmps97
    go_wp2
    go_ret
    exact ⟨by rw [HR.out]; rfl, (Below.refl _ _).alloc (Nat.le_refl _) _⟩
  · have HR := Lib.hid (Ky.right0 h4 h1 h2 h3)
    have hd1 : (k.sort == 1) = false := by simpa using h1
    have hd2 : (k.sort == 2) = false := by simpa using h2
    have hd3 : (k.sort == 3) = false := by simpa using h3
    have hd4 : (k.sort == 4) = false := by simpa using h4
    clear h4 h1 h2 h3
    go_enter Try.func97, Try.ntmps97
    go_wp2
    go_ret
    exact ⟨by rw [HR.out]; rfl, (Below.refl _ _).alloc (Nat.le_refl _) _⟩


theorem stamp76 (n rep : Int) (hn : 0 ≤ n) (hn2 : n ≤ 4294967295) (hr : 0 ≤ rep) (hr2 : rep ≤ 255) (w : World) :
    Calls Try.prog 76 #[.int .u32 n, .int .u8 rep] w fun e w' => e = .returned (.int .u64 (n * 256 + rep)) ∧ w = w' := by
  have hor := Lib.hid (or_join 8 (by omega) (n * 256) rep (by omega) (by omega) (by omega) hr (by omega))
  go_enter Try.func76, Try.ntmps76
  go_wp2
  go_ret
  exact ⟨by rw [← hor.out]; rfl, rfl⟩
theorem unstamp80 (x : Int) (hx : 0 ≤ x) (hx2 : x ≤ 18446744073709551615) (w : World) :
    Calls Try.prog 80 #[.int .u64 x] w fun e w' => e = .returned (.tuple #[.int .u32 (x / 256 % 4294967296), .int .u8 (x % 256)]) ∧ w = w' := by
  go_enter Try.func80, Try.ntmps80
  go_wp2
  go_ret2
  exact ⟨rfl, rfl⟩

end Go.Proofs.Ythnhlbikfidpnaa
