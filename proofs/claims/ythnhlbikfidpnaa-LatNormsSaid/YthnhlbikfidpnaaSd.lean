/- lat.All: the join of any rows. -/
import Derived.Test.YthnhlbikfidpnaaSc
namespace Go.Proofs.Ythnhlbikfidpnaa
open Go.RowKit
set_option maxHeartbeats 2000000
set_option maxRecDepth 100000
attribute [local go_sem ↓] exec_load67 exec_load65 exec_load63 exec_store67 exec_store63 exec_store65
theorem look_dk {m : List Am} (h : Dk m) {k : Ky} {v : Vl} (hm : ⟨k, v⟩ ∈ m) : look m k = some v := by
  induction m with
  | nil => cases hm
  | cons a l ih =>
    rw [Dk, List.pairwise_cons] at h
    rcases List.mem_cons.1 hm with rfl | hm
    · exact look_cons_eq (a := ⟨k, v⟩) rfl
    · rw [look_cons_ne (h.1 _ hm)]; exact ih h.2 hm
theorem look_perm {l m : List Am} (h : l.Perm m) (hd : Dk m) (k : Ky) : look l k = look m k := by
  have hdl : Dk l := (List.Perm.pairwise_iff (R := fun a b : Am => a.k ≠ b.k) (fun h => Ne.symm h) h).2 hd
  cases hl : look l k with
  | some v => exact (look_dk hd (h.mem_iff.1 (look_mem hl))).symm
  | none =>
    cases hm : look m k with
    | none => rfl
    | some v => rw [look_dk hdl (h.mem_iff.2 (look_mem hm))] at hl; cases hl
theorem sorted_srt {l m : List Am} (h : l.Perm m) (hd : Dk m) (om : AOk m) (hs : l.Pairwise fun a b => kLess b.k a.k = false) : Srt l := by
  have hdl : Dk l := (List.Perm.pairwise_iff (R := fun a b : Am => a.k ≠ b.k) (fun h => Ne.symm h) h).2 hd
  have hb := List.Pairwise.and hs hdl
  exact hb.imp_of_mem fun {a b} ha hb' ⟨h1, h2⟩ => kLess_of_not (om b (h.mem_iff.1 hb')).1 (om a (h.mem_iff.1 ha)).1 (fun e => h2 e.symm) h1
theorem state_is {ls : List (List Am)} (h : ∀ l ∈ ls, AOk l) {l' : List Am} (hp : l'.Perm (mAll ls)) (hs : l'.Pairwise fun a b => kLess b.k a.k = false) : l' = lAll ls := by
  obtain ⟨h1, h2, h3⟩ := mAll_spec ls h
  exact srt_ext (fun a ha => h1 a (hp.mem_iff.1 ha)) (lAll_spec ls h).1 (sorted_srt hp h2 h1 hs) (lAll_state ls h).1 (fun k => (look_perm hp h2 k).trans (h3 k))
theorem mStep_len (m : List Am) (a : Am) : (mStep m a).length ≤ m.length + 1 := by
  unfold mStep
  split
  · exact mSet_len _ _ _
  · omega
theorem mRow_len : ∀ (row m : List Am), (mRow m row).length ≤ m.length + row.length
  | [], m => by simp [mRow]
  | a :: row, m => by
    have h1 := mRow_len row (mStep m a)
    have h2 := mStep_len m a
    show (mRow (mStep m a) row).length ≤ _
    rw [List.length_cons]
    omega
theorem mAll_len (ls : List (List Am)) : (mAll ls).length ≤ sumLen ls := by
  rw [← List.reverse_reverse ls]
  generalize ls.reverse = rs
  induction rs with
  | nil => exact Nat.le_refl _
  | cons l rs ih =>
    rw [List.reverse_cons]
    have e1 : mAll (rs.reverse ++ [l]) = mRow (mAll rs.reverse) l := by simp [mAll, List.foldl_append]
    have e : sumLen (rs.reverse ++ [l]) = sumLen rs.reverse + l.length := by simp [sumLen]
    have := mRow_len l (mAll rs.reverse)
    rw [e1]
    omega
theorem mAll_take_ok {ls : List (List Am)} (h : ∀ l ∈ ls, AOk l) (k : Nat) : AOk (mAll (ls.take k)) := (mAll_spec (ls.take k) fun x hx => h x (List.mem_of_mem_take hx)).1
theorem mRow_take_ok {m row : List Am} (hm : AOk m) (hr : AOk row) (q : Nat) : AOk (mRow m (row.take q)) := by
  have : ∀ (row m : List Am), AOk m → AOk row → AOk (mRow m row) := by
    intro row
    induction row with
    | nil => intro m h _; exact h
    | cons a row ih => intro m h hr; exact ih (mStep m a) (mStep_ok h (hr a (by simp))) (fun x hx => hr x (by simp [hx]))
  exact this _ _ hm (fun a ha => hr a (List.mem_of_mem_take ha))
theorem mStep_no {m : List Am} {a : Am} (h : a.right = false) : mStep m a = m := by unfold mStep; rw [h]; rfl
theorem mStep_new {m : List Am} {a : Am} (h : a.right = true) (hl : look m a.k = none) : mStep m a = mSet m a.k a.v := by unfold mStep; rw [h, hl]; rfl
theorem mStep_old {m : List Am} {a : Am} {was : Vl} (h : a.right = true) (hl : look m a.k = some was) : mStep m a = mSet m a.k (vMore was a.v) := by unfold mStep; rw [h, hl]; rfl
theorem MapB.stW {W : World} {b : Nat} {m : List Am} (h : MapB W b m) {g : Nat} (hg : b ≠ g) (off : Nat) (xs : Array Value) : MapB (stW W g off xs) b m := by
  unfold Ythnhlbikfidpnaa.stW
  exact (heap_setCells_far hg _ _ _).trans h
theorem All35 (ls : List (List Am)) (v : Value) (w : World) (hv : Rows2 w v ls) (hn : ls.length ≤ 1000000) (hl : sumLen ls ≤ 500000) (hok : ∀ l ∈ ls, AOk l) :
    Calls Try.prog 35 #[v] w fun e w' => ∃ r, e = .returned r ∧ NewRow w.heap.size w' r (lAll ls) ∧ Below w.heap.size w w' := by
  have HOK := Lib.hid hok
  obtain ⟨A, c, rfl, hlc, hA⟩ := hv
  have HA := Lib.hid hA
  have hmm := @run_makeMap Try.prog
  clear hA hok
  go_enter Try.func35, Try.ntmps35
  go_wp2_with fail
  go_loopw [13] (fun i wr => ∃ (k : Nat), k ≤ ls.length ∧ i = .int .i64 k ∧ MapB wr w.heap.size (mAll (ls.take k)) ∧ Below w.heap.size w wr) (fun i _ => ls.length - (intOf i).toNat)
  case atStart => exact ⟨0, by omega, rfl, MapB.new w, (Below.refl _ _).alloc (Nat.le_refl _) _⟩
  case round =>
    obtain ⟨k, hk, rfl, hmb, hbr⟩ := hrel
    have HM := Lib.hid hmb
    clear hmb hmm
    by_cases hlt : k < ls.length
    · obtain ⟨b, off, rfl, hb, hx⟩ := HA.out (by omega)
      obtain ⟨row, hrk⟩ : ∃ l, ls[k]? = some l := ⟨ls[k], List.getElem?_eq_getElem hlt⟩
      obtain ⟨u, hu, hR⟩ := hx k row hrk
      have hcu : wr.cell? ⟨b, off + k, none⟩ = some u := ((bcB hbr).1 _ _ hb).trans hu
      have HX := Lib.hid hrk
      have hrl : row.length ≤ 500000 := Nat.le_trans (sumLen_mem (List.mem_of_getElem? hrk)) hl
      have HRO : Hid (AOk row) := HOK.out row (List.mem_of_getElem? hrk)
      have HMO : Hid (AOk (mAll (ls.take k))) := mAll_take_ok HOK.out k
      obtain ⟨A2, c2, rfl, hlc2, hA2⟩ := hR
      have HA2 := Lib.hid hA2
      clear hx hrk HA hA2 hu
      go_wp2_with fail
      obtain ⟨wo, rfl⟩ : ∃ wo : World, wo = wr := ⟨_, rfl⟩
      go_loopw [19] (fun j wr => ∃ q : Nat, q ≤ row.length ∧ j = .int .i64 q ∧ MapB wr w.heap.size (mRow (mAll (ls.take k)) (row.take q)) ∧ Below w.heap.size w wr) (fun j _ => row.length - (intOf j).toNat)
      case atStart => exact ⟨0, by omega, rfl, HM.out, hbr⟩
      case round =>
        obtain ⟨q, hq, rfl, hmi, hbi⟩ := hrel
        have HMI := Lib.hid hmi
        clear hmi hcu
        have hwz := hbi.size
        by_cases hql : q < row.length
        · obtain ⟨b2, off2, rfl, hb2, hx2⟩ := HA2.out (by omega)
          obtain ⟨x, hxk⟩ : ∃ x, row[q]? = some x := ⟨row[q], List.getElem?_eq_getElem hql⟩
          have hxo : Hid x.ok := HRO.out x (List.mem_of_getElem? hxk)
          have hxv : Hid x.v.ok := hxo.out.2
          have hld0 : (ldOp 67 (.pointer (some ⟨b2, off2 + q * 21, none⟩))).run Try.prog wr = .ok (.value (.agg (encA x))) wr := ld67 wr b2 _ (encA x) rfl (fun j hj => ((bcB hbi).1 _ _ hb2).trans (hx2 q x hxk j hj))
          have hst : ∀ cs : Array Value, cs.size = 21 → (stOp 67 (.pointer (some ⟨wr.heap.size, 0, none⟩)) (.agg (encA x))).run Try.prog (wr.alloc (.cells cs 67)) = .ok .skip (wr.alloc (.cells (encA x) 67)) := fun cs h0 => st67 wr cs h0 x
          have hbox : (ldOp 67 (.pointer (some ⟨wr.heap.size, 0, none⟩))).run Try.prog (wr.alloc (.cells (encA x) 67)) = .ok (.value (.agg (encA x))) (wr.alloc (.cells (encA x) 67)) := ldB67 (Blk.new wr 67 (encA x)) x (fun j _ => by rw [Nat.zero_add])
          have HMT : Hid (mRow (mAll (ls.take k)) (row.take (q + 1)) = mStep (mRow (mAll (ls.take k)) (row.take q)) x) := mRow_take hxk
          have HMO2 : Hid (AOk (mRow (mAll (ls.take k)) (row.take q))) := mRow_take_ok HMO.out HRO.out q
          generalize mRow (mAll (ls.take k)) (row.take q) = M at *
          clear hx2 hxk HA2
          cases hxr : x.right
          · have HXR := Lib.hid hxr
            clear hxr
            go_wp2_with (go_at_call 64; refine (right64 x hxo _).mono ?_; rintro e w2 ⟨rfl, hbw2⟩; rw [HXR.out])
            refine ⟨⟨q + 1, by omega, by go_num, ?_, (hbi.alloc hwz _).trans (hbw2.mono (by simp; omega))⟩, by simp [intOf]; omega⟩
            rw [HMT.out, mStep_no HXR.out]
            exact (MapB.ext HMI.out ((Below.refl _ _).alloc (Nat.le_refl _) _)).ext hbw2
          · have HXR := Lib.hid hxr
            clear hxr
            go_wp2_with fail
            refine (right64 x hxo _).mono ?_
            rintro e w2 ⟨rfl, hbw2⟩
            rw [HXR.out]
            have hz2 := hbw2.size
            simp only [World.size_alloc] at hz2
            have hB2 : Blk w2 wr.heap.size 67 (encA x) := (Blk.new wr 67 (encA x)).ext hbw2
            have hM2 : MapB w2 w.heap.size M := (MapB.ext HMI.out ((Below.refl _ _).alloc (Nat.le_refl _) (.cells (encA x) 67))).ext hbw2
            have hbel2 : Below w.heap.size w w2 := (hbi.alloc hwz _).trans (hbw2.mono (by simp; omega))
            have hk2 : (ldOp 63 (.pointer (some ⟨wr.heap.size, 0, none⟩))).run Try.prog w2 = .ok (.value (.agg (encK x.k))) w2 := ldB63 hB2 x.k (fun j hj => by rw [Nat.zero_add]; exact keyCell x j hj)
            have hlk2 := run_lookup103 w2 w.heap.size M hM2 x.k
            have HB2 := Lib.hid hB2
            have HM2 := Lib.hid hM2
            have hne : w.heap.size ≠ wr.heap.size := by have := HMI.out.lt; omega
            have HNE := Lib.hid hne
            clear hB2 hM2 hne
            cases hlo : look M x.k with
            | none =>
              rw [lookV_none hlo] at hlk2
              have HLO := Lib.hid hlo
              have hlk3 : (Instr.lookup 103 (.map (some w.heap.size)) (.agg (encK x.k)) true).run Try.prog w2 = .ok (.tuple #[.agg #[.int .u64 0, .int .u8 0, .int .u8 0, .int .u8 0, .int .u8 0, .int .u8 0, .int .u8 0, .int .u8 0, .int .u8 0], .bool false]) w2 := hlk2
              have hst65 : ∀ cs : Array Value, cs.size = 9 → (stOp 65 (.pointer (some ⟨w2.heap.size, 0, none⟩)) (.agg #[.int .u64 0, .int .u8 0, .int .u8 0, .int .u8 0, .int .u8 0, .int .u8 0, .int .u8 0, .int .u8 0, .int .u8 0])).run Try.prog (w2.alloc (.cells cs 65)) = .ok .skip (w2.alloc (.cells (encV vl0) 65)) := fun cs h0 => st65 w2 cs h0 vl0
              have hk3 : (ldOp 63 (.pointer (some ⟨wr.heap.size, 0, none⟩))).run Try.prog (w2.alloc (.cells (encV vl0) 65)) = .ok (.value (.agg (encK x.k))) (w2.alloc (.cells (encV vl0) 65)) := ldB63 (HB2.out.alloc _) x.k (fun j hj => by rw [Nat.zero_add]; exact keyCell x j hj)
              have hv3 : (ldOp 65 (.pointer (some ⟨wr.heap.size, 12, none⟩))).run Try.prog (w2.alloc (.cells (encV vl0) 65)) = .ok (.value (.agg (encV x.v))) (w2.alloc (.cells (encV vl0) 65)) := ldB65 (HB2.out.alloc _) x.v (fun j hj => valCell x j hj)
              have hM3 : MapB (w2.alloc (.cells (encV vl0) 65)) w.heap.size M := MapB.ext HM2.out ((Below.refl _ _).alloc (Nat.le_refl _) _)
              have hup := run_mapUpdate103' _ w.heap.size M hM3 x.k x.v
              have hml := hM3.lt
              have HM3 := Lib.hid hM3
              clear hlo hM3 hlk2
              go_wp2_with fail
              refine ⟨⟨q + 1, by omega, by go_num, ?_, below_mapW (hbel2.alloc (by omega) _) (Nat.le_refl _) _⟩, by simp [intOf]; omega⟩
              rw [HMT.out, mStep_new HXR.out HLO.out]
              exact mapW_map hml _
            | some was =>
              rw [lookV_some hlo] at hlk2
              have HLO := Lib.hid hlo
              have hwo : Hid was.ok := look_ok HMO2.out hlo
              have hst65 : ∀ cs : Array Value, cs.size = 9 → (stOp 65 (.pointer (some ⟨w2.heap.size, 0, none⟩)) (.agg (encV was))).run Try.prog (w2.alloc (.cells cs 65)) = .ok .skip (w2.alloc (.cells (encV was) 65)) := fun cs h0 => st65 w2 cs h0 was
              have hw3 : (ldOp 65 (.pointer (some ⟨w2.heap.size, 0, none⟩))).run Try.prog (w2.alloc (.cells (encV was) 65)) = .ok (.value (.agg (encV was))) (w2.alloc (.cells (encV was) 65)) := ldB65 (Blk.new _ _ _) was (fun j hj => by rw [Nat.zero_add])
              have hv3 : (ldOp 65 (.pointer (some ⟨wr.heap.size, 12, none⟩))).run Try.prog (w2.alloc (.cells (encV was) 65)) = .ok (.value (.agg (encV x.v))) (w2.alloc (.cells (encV was) 65)) := ldB65 (HB2.out.alloc _) x.v (fun j hj => valCell x j hj)
              clear hlo
              go_wp2_with fail
              refine (more65 was x.v hwo hxv _).mono ?_
              rintro e w4 ⟨rfl, hb4⟩
              have hz4 := hb4.size
              simp only [World.size_alloc] at hz4
              have hB4 : Blk w4 wr.heap.size 67 (encA x) := (HB2.out.alloc _).ext hb4
              have hM4 : MapB w4 w.heap.size M := (MapB.ext HM2.out ((Below.refl _ _).alloc (Nat.le_refl _) (.cells (encV was) 65))).ext hb4
              have hst4 := stB65 (off := 12) hB4 (vMore was x.v) (by simp)
              have hB5 := hB4.stW 12 (encV (vMore was x.v)) _ (setFrom_val x (vMore was x.v))
              have hM5 := hM4.stW HNE.out 12 (encV (vMore was x.v))
              have hk5 := ldB63 (off := 0) hB5 x.k (fun j hj => by rw [Nat.zero_add]; exact keyCell ⟨x.k, vMore was x.v⟩ j hj)
              have hv5 := ldB65 (off := 12) hB5 (vMore was x.v) (fun j hj => valCell ⟨x.k, vMore was x.v⟩ j hj)
              have hup := run_mapUpdate103' _ w.heap.size M hM5 x.k (vMore was x.v)
              have hml := hM5.lt
              have hbel4 : Below w.heap.size w w4 := (hbel2.alloc (by omega) _).trans (hb4.mono (by simp; omega))
              clear hB4 hM4 hB5 hM5
              go_wp2_with fail
              refine ⟨⟨q + 1, by omega, by go_num, ?_, below_mapW (below_stW hbel4 _ _ hwz _) (Nat.le_refl _) _⟩, by simp [intOf]; omega⟩
              rw [HMT.out, mStep_old HXR.out HLO.out]
              exact mapW_map hml _
        · obtain rfl : q = row.length := by omega
          go_wp2_with fail
          refine ⟨⟨k + 1, by omega, by go_num, ?_, hbi⟩, by simp [intOf]; omega⟩
          rw [mAll_take HX.out]
          have := HMI.out
          rwa [List.take_of_length_le (Nat.le_refl _)] at this
    · obtain rfl : k = ls.length := by omega
      have hml : (mAll (ls.take ls.length)).length ≤ 1000000 := by rw [List.take_of_length_le (Nat.le_refl _)]; exact Nat.le_trans (mAll_len ls) (by omega)
      go_wp2_with (go_at_call 66; refine (state66 (mAll (ls.take ls.length)) w.heap.size _ HM.out hml (mAll_take_ok HOK.out _)).mono ?_; rintro e w2 ⟨r, l', rfl, hR2, hp, hs, hb2⟩)
      go_ret
      refine ⟨_, rfl, ?_, hbr.trans (hb2.mono hbr.size)⟩
      rw [List.take_of_length_le (Nat.le_refl _)] at hp
      rw [← state_is HOK.out hp hs]
      exact hR2.mono hbr.size
end Go.Proofs.Ythnhlbikfidpnaa
