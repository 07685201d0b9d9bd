/- The document's Right of atoms; Over and More on both sides; the order of atoms. -/
import Derived.Test.YthnhlbikfidpnaaF
namespace Go.Proofs.Ythnhlbikfidpnaa
open Go.RowKit
set_option maxHeartbeats 400000
set_option maxRecDepth 100000

theorem right70_no (a : Am) (ha : Hid a.ok) (w : World) (hk : a.k.right = false) :
    Calls Try.prog 70 #[.agg (encA a)] w fun e w' => e = .returned (.bool false) ∧ Below w.heap.size w w' := by
  have HK := Lib.hid hk
  clear hk
  go_enter Try.func70, Try.ntmps70
  go_wp2_with fail
  refine (right97 a.k ha.out.1 _).mono ?_
  rintro e w1 ⟨rfl, hb1⟩
  rw [HK.out]
  go_wp2
  go_ret
  exact ⟨rfl, ((Below.refl _ _).alloc (Nat.le_refl _) _).trans (hb1.mono (by simp))⟩

set_option maxHeartbeats 2000000 in
theorem right70_1 (a : Am) (ha : Hid a.ok) (w : World) (hk : a.k.right = true) (hs : a.k.sort = 1) :
    Calls Try.prog 70 #[.agg (encA a)] w fun e w' => e = .returned (.bool (a.v.bare && (a.v.n == 1 || a.v.n == 2))) ∧ Below w.heap.size w w' := by
  have HK := Lib.hid hk
  have he : ∀ W, (Op.equalIn 10000 61 (.agg #[.int .u8 a.v.text.c0, .int .u8 a.v.text.c1, .int .u8 a.v.text.c2, .int .u8 a.v.text.c3, .int .u8 a.v.text.c4, .int .u8 a.v.text.c5, .int .u8 a.v.text.c6, .int .u8 a.v.text.c7]) (.agg #[.int .u8 0, .int .u8 0, .int .u8 0, .int .u8 0, .int .u8 0, .int .u8 0, .int .u8 0, .int .u8 0])).run Try.prog W = .ok a.v.bare W := fun W => equalIn61 9998 a.v.text nm0 W
  have hd1 : (a.k.sort == 1) = true := by rw [hs]; rfl
  clear hk hs
  cases hv : a.v.bare
  all_goals
    have HV := Lib.hid hv
    rw [hv] at he
    clear hv
    go_enter Try.func70, Try.ntmps70
    go_wp2_with fail
    refine (right97 a.k ha.out.1 _).mono ?_
    rintro e w1 ⟨rfl, hb1⟩
    obtain ⟨hc, hf⟩ := bcell hb1
    rw [HK.out]
    go_wp2
    all_goals go_ret
    all_goals exact ⟨by first | (simp; done) | (simp_all; done) | (simp; omega), ((Below.refl _ _).alloc (Nat.le_refl _) _).trans (hb1.mono (by simp))⟩

set_option maxHeartbeats 2000000 in
theorem right70_2 (a : Am) (ha : Hid a.ok) (w : World) (hk : a.k.right = true) (hs : a.k.sort = 2) :
    Calls Try.prog 70 #[.agg (encA a)] w fun e w' => e = .returned (.bool (a.v.bare && decide (1 ≤ a.v.n) && decide (a.v.n ≤ 4294967295))) ∧ Below w.heap.size w w' := by
  have HK := Lib.hid hk
  have he : ∀ W, (Op.equalIn 10000 61 (.agg #[.int .u8 a.v.text.c0, .int .u8 a.v.text.c1, .int .u8 a.v.text.c2, .int .u8 a.v.text.c3, .int .u8 a.v.text.c4, .int .u8 a.v.text.c5, .int .u8 a.v.text.c6, .int .u8 a.v.text.c7]) (.agg #[.int .u8 0, .int .u8 0, .int .u8 0, .int .u8 0, .int .u8 0, .int .u8 0, .int .u8 0, .int .u8 0])).run Try.prog W = .ok a.v.bare W := fun W => equalIn61 9998 a.v.text nm0 W
  have hd1 : (a.k.sort == 1) = false := by rw [hs]; rfl
  have hd2 : (a.k.sort == 2) = true := by rw [hs]; rfl
  clear hk hs
  cases hv : a.v.bare
  all_goals
    have HV := Lib.hid hv
    rw [hv] at he
    clear hv
    go_enter Try.func70, Try.ntmps70
    go_wp2_with fail
    refine (right97 a.k ha.out.1 _).mono ?_
    rintro e w1 ⟨rfl, hb1⟩
    obtain ⟨hc, hf⟩ := bcell hb1
    rw [HK.out]
    go_wp2
    all_goals go_ret
    all_goals exact ⟨by first | (simp; done) | (simp_all; done) | (simp; omega), ((Below.refl _ _).alloc (Nat.le_refl _) _).trans (hb1.mono (by simp))⟩

set_option maxHeartbeats 2000000 in
theorem right70_3 (a : Am) (ha : Hid a.ok) (w : World) (hk : a.k.right = true) (hs : a.k.sort = 3) :
    Calls Try.prog 70 #[.agg (encA a)] w fun e w' => e = .returned (.bool (a.v.bare && decide (1 ≤ a.v.n) && decide (a.v.n ≤ 4294967295))) ∧ Below w.heap.size w w' := by
  have HK := Lib.hid hk
  have he : ∀ W, (Op.equalIn 10000 61 (.agg #[.int .u8 a.v.text.c0, .int .u8 a.v.text.c1, .int .u8 a.v.text.c2, .int .u8 a.v.text.c3, .int .u8 a.v.text.c4, .int .u8 a.v.text.c5, .int .u8 a.v.text.c6, .int .u8 a.v.text.c7]) (.agg #[.int .u8 0, .int .u8 0, .int .u8 0, .int .u8 0, .int .u8 0, .int .u8 0, .int .u8 0, .int .u8 0])).run Try.prog W = .ok a.v.bare W := fun W => equalIn61 9998 a.v.text nm0 W
  have hd1 : (a.k.sort == 1) = false := by rw [hs]; rfl
  have hd2 : (a.k.sort == 2) = false := by rw [hs]; rfl
  have hd3 : (a.k.sort == 3) = true := by rw [hs]; rfl
  clear hk hs
  cases hv : a.v.bare
  all_goals
    have HV := Lib.hid hv
    rw [hv] at he
    clear hv
    go_enter Try.func70, Try.ntmps70
    go_wp2_with fail
    refine (right97 a.k ha.out.1 _).mono ?_
    rintro e w1 ⟨rfl, hb1⟩
    obtain ⟨hc, hf⟩ := bcell hb1
    rw [HK.out]
    go_wp2
    all_goals go_ret
    all_goals exact ⟨by first | (simp; done) | (simp_all; done) | (simp; omega), ((Below.refl _ _).alloc (Nat.le_refl _) _).trans (hb1.mono (by simp))⟩

set_option maxHeartbeats 2000000 in
theorem right70_4 (a : Am) (ha : Hid a.ok) (w : World) (hk : a.k.right = true) (hs : a.k.sort = 4) :
    Calls Try.prog 70 #[.agg (encA a)] w fun e w' => e = .returned (.bool (stampErr a.v.n == 0 && (a.v.bare || a.v.text.right))) ∧ Below w.heap.size w w' := by
  have HK := Lib.hid hk
  have he : ∀ W, (Op.equalIn 10000 61 (.agg #[.int .u8 a.v.text.c0, .int .u8 a.v.text.c1, .int .u8 a.v.text.c2, .int .u8 a.v.text.c3, .int .u8 a.v.text.c4, .int .u8 a.v.text.c5, .int .u8 a.v.text.c6, .int .u8 a.v.text.c7]) (.agg #[.int .u8 0, .int .u8 0, .int .u8 0, .int .u8 0, .int .u8 0, .int .u8 0, .int .u8 0, .int .u8 0])).run Try.prog W = .ok a.v.bare W := fun W => equalIn61 9998 a.v.text nm0 W
  have hd1 : (a.k.sort == 1) = false := by rw [hs]; rfl
  have hd2 : (a.k.sort == 2) = false := by rw [hs]; rfl
  have hd3 : (a.k.sort == 3) = false := by rw [hs]; rfl
  clear hk hs
  have hn1 := ha.out.2.1.1
  have hn2 := ha.out.2.1.2
  have hse : (stampErr a.v.n == 0) = decide (a.v.n % 256 < 16 ∧ 1 ≤ a.v.n / 256 ∧ a.v.n / 256 ≤ 4294967295) := by
    rw [Bool.eq_iff_iff]
    simp only [beq_iff_eq, decide_eq_true_eq]
    unfold stampErr
    constructor
    · intro h
      by_cases c : a.v.n % 256 < 16 ∧ a.v.n ≤ 1099511627775
      · rw [if_pos c] at h
        by_cases c2 : a.v.n / 256 % 4294967296 = 0
        · rw [if_pos c2] at h; omega
        · omega
      · rw [if_neg c] at h; omega
    · intro h
      rw [if_pos (by omega), if_neg (by omega)]
  have HE := Lib.hid hse
  clear hse
  cases hv : a.v.bare
  · have HV := Lib.hid hv
    rw [hv] at he
    clear hv
    by_cases c1 : a.v.n % 256 < 16 ∧ 1 ≤ a.v.n / 256 ∧ a.v.n / 256 ≤ 4294967295
    · obtain ⟨c2, c3, c4⟩ := c1
      go_enter Try.func70, Try.ntmps70
      go_wp2_with fail
      refine (right97 a.k ha.out.1 _).mono ?_
      rintro e w1 ⟨rfl, hb1⟩
      obtain ⟨hc, hf⟩ := bcell hb1
      rw [HK.out]
      go_wp2_with fail
      refine (right81 a.v.text ha.out.2.2 _).mono ?_
      rintro e w2 ⟨rfl, hb2⟩
      have hz1 := hb1.size
      simp at hz1
      go_wp2
      go_ret
      exact ⟨by rw [HE.out]; simp [c2, c3, c4], (((Below.refl _ _).alloc (Nat.le_refl _) _).trans (hb1.mono (by simp))).trans (hb2.mono (by omega))⟩
    · have hdd : decide (a.v.n % 256 < 16 ∧ 1 ≤ a.v.n / 256 ∧ a.v.n / 256 ≤ 4294967295) = false := by simpa using c1
      have HDD := Lib.hid hdd
      clear hdd
      by_cases c2 : a.v.n % 256 < 16
      · by_cases c3 : 1 ≤ a.v.n / 256
        · have c4 : ¬ a.v.n / 256 ≤ 4294967295 := fun h => c1 ⟨c2, c3, h⟩
          clear c1
          go_enter Try.func70, Try.ntmps70
          go_wp2_with fail
          refine (right97 a.k ha.out.1 _).mono ?_
          rintro e w1 ⟨rfl, hb1⟩
          obtain ⟨hc, hf⟩ := bcell hb1
          rw [HK.out]
          go_wp2
          go_ret
          exact ⟨by rw [HE.out, HDD.out]; rfl, ((Below.refl _ _).alloc (Nat.le_refl _) _).trans (hb1.mono (by simp))⟩
        · clear c1
          go_enter Try.func70, Try.ntmps70
          go_wp2_with fail
          refine (right97 a.k ha.out.1 _).mono ?_
          rintro e w1 ⟨rfl, hb1⟩
          obtain ⟨hc, hf⟩ := bcell hb1
          rw [HK.out]
          go_wp2
          go_ret
          exact ⟨by rw [HE.out, HDD.out]; rfl, ((Below.refl _ _).alloc (Nat.le_refl _) _).trans (hb1.mono (by simp))⟩
      · clear c1
        go_enter Try.func70, Try.ntmps70
        go_wp2_with fail
        refine (right97 a.k ha.out.1 _).mono ?_
        rintro e w1 ⟨rfl, hb1⟩
        obtain ⟨hc, hf⟩ := bcell hb1
        rw [HK.out]
        go_wp2
        go_ret
        exact ⟨by rw [HE.out, HDD.out]; rfl, ((Below.refl _ _).alloc (Nat.le_refl _) _).trans (hb1.mono (by simp))⟩
  · have HV := Lib.hid hv
    rw [hv] at he
    clear hv
    go_enter Try.func70, Try.ntmps70
    go_wp2_with fail
    refine (right97 a.k ha.out.1 _).mono ?_
    rintro e w1 ⟨rfl, hb1⟩
    obtain ⟨hc, hf⟩ := bcell hb1
    rw [HK.out]
    go_wp2
    all_goals go_ret
    all_goals exact ⟨by rw [HE.out]; first | (simp; done) | (simp; omega), ((Below.refl _ _).alloc (Nat.le_refl _) _).trans (hb1.mono (by simp))⟩

theorem right70 (a : Am) (ha : Hid a.ok) (w : World) :
    Calls Try.prog 70 #[.agg (encA a)] w fun e w' => e = .returned (.bool a.right) ∧ Below w.heap.size w w' := by
  unfold Am.right
  cases hk : a.k.right
  · exact right70_no a ha w hk
  · rw [Bool.true_and]
    rcases Ky.sort_of hk with h | h | h | h
    · rw [Vl.right1 _ h]; exact right70_1 a ha w hk h
    · rw [Vl.right23 _ (.inl h)]; exact right70_2 a ha w hk h
    · rw [Vl.right23 _ (.inr h)]; exact right70_3 a ha w hk h
    · rw [Vl.right4 _ h]; exact right70_4 a ha w hk h

end Go.Proofs.Ythnhlbikfidpnaa
