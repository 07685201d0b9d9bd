/- The document's put: an atom laid into a row. -/
import Derived.Test.YthnhlbikfidpnaaM
import Derived.Deep.RegionHeld3
namespace Go.Proofs.Ythnhlbikfidpnaa
open Go.RowKit
set_option maxHeartbeats 2000000
set_option maxRecDepth 100000
attribute [local go_sem ↓] exec_load67 exec_load65 exec_load63 exec_store67
theorem own_below' {w w' : World} {B : Nat} {v : Value} {l : List Am} (h : Own w B v l) (hb : Below w.heap.size w w') : Own w' B v l := by
  obtain ⟨hlen, h⟩ := h
  refine ⟨hlen, ?_⟩
  rcases h with h | ⟨g, cap, cur, rfl, hg, hh, h⟩
  · exact .inl h
  · exact .inr ⟨g, cap, cur, rfl, hg, Blk.ext hh hb, h⟩
theorem own_mono {w : World} {B C : Nat} {v : Value} {l : List Am} (h : Own w B v l) (hC : C ≤ B) : Own w C v l := by
  obtain ⟨hlen, h⟩ := h
  refine ⟨hlen, ?_⟩
  rcases h with h | ⟨g, cap, cur, rfl, hg, hh, h⟩
  · exact .inl h
  · exact .inr ⟨g, cap, cur, rfl, Nat.le_trans hC hg, hh, h⟩
theorem put72 (l : List Am) (a : Am) (v : Value) (w : World) (hv : Row encA 21 w v l) (hl : l.length ≤ 1000000) (hok : Oks l) (hao : Hid a.ok) :
    Calls Try.prog 72 #[v, .agg (encA a)] w fun e w' => ∃ u, e = .returned u ∧ Own w' w.heap.size u (lPut l a) ∧ Below w.heap.size w w' := by
  obtain ⟨A, c, rfl, hlc, hA⟩ := hv
  have HA := Lib.hid hA
  have HOK := Lib.hid hok
  clear hA hok
  go_enter Try.func72, Try.ntmps72
  go_wp2
  go_loopw [7, 5, 6] (fun i o d wr => ∃ (k : Nat), k ≤ l.length ∧ i = .int .i64 k ∧ d = .bool (putAll a (l.take k)).2 ∧ Own wr (w.heap.size + 1) o (putAll a (l.take k)).1 ∧ Below (w.heap.size + 1) (w.alloc (.cells (encA a) 67)) wr) (fun i _ _ _ => l.length - (intOf i).toNat)
  case atStart => exact ⟨0, by omega, rfl, rfl, World.ownsRow_nil _ _ _ _, Below.refl _ _⟩
  case round =>
    obtain ⟨k, hk, rfl, rfl, how, hbr⟩ := hrel
    have HW := Lib.hid how
    clear how
    by_cases hlt : k < l.length
    · obtain ⟨b, off, rfl, hb, hx⟩ := HA.out (by omega)
      obtain ⟨x, hxk⟩ : ∃ x, l[k]? = some x := ⟨l[k], List.getElem?_eq_getElem hlt⟩
      have hxo : Hid x.ok := HOK.out k x hxk
      have hxo2 : Hid x.v.ok := hxo.out.2
      have hao2 : Hid a.v.ok := hao.out.2
      have hsz : w.heap.size + 1 ≤ wr.heap.size := by have := hbr.size; simpa using this
      have hC1 : ∀ W, Below wr.heap.size wr W → Below (w.heap.size + 1) (w.alloc (.cells (encA a) 67)) W := fun W hW => hbr.trans (hW.mono hsz)
      have hC : ∀ W, Below wr.heap.size wr W → Below w.heap.size w W := fun W hW => ((Below.refl _ _).alloc (Nat.le_refl _) _).trans ((hC1 W hW).mono (by omega))
      have hcx : ∀ W, Below (w.heap.size + 1) (w.alloc (.cells (encA a) 67)) W → ∀ j, j < 21 → W.cell? ⟨b, off + k * 21 + j, none⟩ = (encA x)[j]? := fun W hW j hj => ((bcB (((Below.refl _ _).alloc (Nat.le_refl _) _).trans (hW.mono (by omega)))).1 _ _ hb).trans (hx k x hxk j hj)
      have hca : ∀ W, Below (w.heap.size + 1) (w.alloc (.cells (encA a) 67)) W → ∀ j, W.cell? ⟨w.heap.size, j, none⟩ = (encA a)[j]? := fun W hW j => ((Blk.new w 67 (encA a)).below hW (by omega)).cell j
      have hx67 : ∀ W, Below (w.heap.size + 1) (w.alloc (.cells (encA a) 67)) W → (ldOp 67 (.pointer (some ⟨b, off + k * 21, none⟩))).run Try.prog W = .ok (.value (.agg (encA x))) W := fun W hW => ld67 W b _ (encA x) rfl (hcx W hW)
      have hx63 : ∀ W, Below (w.heap.size + 1) (w.alloc (.cells (encA a) 67)) W → (ldOp 63 (.pointer (some ⟨b, off + k * 21, none⟩))).run Try.prog W = .ok (.value (.agg (encK x.k))) W := fun W hW => ld63 W b _ (encK x.k) rfl (fun j hj => (hcx W hW j (by omega)).trans (keyCell x j hj))
      have hx65 : ∀ W, Below (w.heap.size + 1) (w.alloc (.cells (encA a) 67)) W → (ldOp 65 (.pointer (some ⟨b, off + k * 21 + 12, none⟩))).run Try.prog W = .ok (.value (.agg (encV x.v))) W := fun W hW => ld65 W b _ (encV x.v) rfl (fun j hj => by rw [Nat.add_assoc]; exact (hcx W hW (12 + j) (by omega)).trans (valCell x j hj))
      have ha67 : ∀ W, Below (w.heap.size + 1) (w.alloc (.cells (encA a) 67)) W → (ldOp 67 (.pointer (some ⟨w.heap.size, 0, none⟩))).run Try.prog W = .ok (.value (.agg (encA a))) W := fun W hW => ld67 W _ 0 (encA a) rfl (fun j _ => by rw [Nat.zero_add]; exact hca W hW j)
      have ha63 : ∀ W, Below (w.heap.size + 1) (w.alloc (.cells (encA a) 67)) W → (ldOp 63 (.pointer (some ⟨w.heap.size, 0, none⟩))).run Try.prog W = .ok (.value (.agg (encK a.k))) W := fun W hW => ld63 W _ 0 (encK a.k) rfl (fun j hj => by rw [Nat.zero_add]; exact (hca W hW j).trans (keyCell a j hj))
      have ha65 : ∀ W, Below (w.heap.size + 1) (w.alloc (.cells (encA a) 67)) W → (ldOp 65 (.pointer (some ⟨w.heap.size, 12, none⟩))).run Try.prog W = .ok (.value (.agg (encV a.v))) W := fun W hW => ld65 W _ 12 (encV a.v) rfl (fun j hj => (hca W hW (12 + j)).trans (valCell a j hj))
      have HX := Lib.hid hxk
      clear hx hxk HA hca hcx
      by_cases hk : x.k = a.k
      · have he : ∀ W, (Op.equalIn 10000 63 (.agg (encK x.k)) (.agg (encK a.k))).run Try.prog W = .ok true W := fun W => (equalIn63 9997 x.k a.k W).trans (by rw [decide_eq_true hk])
        have HK := Lib.hid hk
        clear hk
        go_wp2_with fail
        refine wp_region_quiet (C := fun W => Below (wr.heap.size) (wr) W) (by kernel_rfl) (by kernel_rfl) ((Below.refl _ _).drew) ?_
        repeat
          (with_reducible refine wpQuiet_step (fun K hK => ?_)
           go_simp
           first
             | (refine hK _ ?_; clear hK K)
             | (apply Exists.intro
                refine ⟨fun W hW => ?_, hK _ ?_⟩
                (obtain ⟨hc, hf⟩ := bcB hW
                 first
                 | (go_simp; exact rfl)
                 | (fail))
                clear hK K))
        refine wpQuiet_nil ?_
        intro w2 hb2
        obtain ⟨hc, hf⟩ := bcB hb2
        go_wp2_with fail
        have HO2 : Hid (Own w2.drew (w.heap.size + 1) _ _) := Lib.hid (World.ownsRow.drew (own_below' HW.out hb2))
        have hS2 : Below (w.heap.size + 1) (w.alloc (.cells (encA a) 67)) w2.drew := (hC1 _ hb2).drew
        go_region_held3 (fun w' => Below (w.heap.size + 1) (w.alloc (.cells (encA a) 67)) w')
          (first | assumption | (repeat (first | exact hS2 | exact hC1 _ hb2 | assumption | refine keepC ?_ (by simp) (by assumption) | refine Below.drew ?_ | refine Below.alloc ?_ (by first | omega | (simp; omega)) _)))
          (first | (go_at_call 77; refine (more77 x.v a.v hxo2 hao2 _).mono ?_; rintro e w3 ⟨rfl, hb3⟩; have hS3 : Below (w.heap.size + 1) (w.alloc (.cells (encA a) 67)) w3 := keepC hS2 (by simp) hb3; have hz3 : w.heap.size + 1 ≤ w3.heap.size := by have := hS3.size; simpa using this) | (refine stepA rfl _ _ rfl (w.heap.size + 1) _ _ rfl (World.ownsRow.alloc (own_below' HO2.out hb3) _) w3.heap.size 1 ⟨a.k, vMore x.v a.v⟩ rfl (fun j => (Blk.new w3 67 _).cell j) (Nat.le_trans (putAll_len a _) (by have := List.length_take_le k l; omega)) (by simp; omega) (fun v' w4 hown4 hgrow4 => ?_); have hb5 : Below (w.heap.size + 1) (w.alloc (.cells (encA a) 67)) w4 := Below.grown (hS3.alloc (by omega) _) hgrow4 (by simp; omega) (fun j hj => (World.ownsRow.lt (own_below' HO2.out hb3) _ hj).1)))
        go_wp2_with fail
        refine ⟨⟨k + 1, by omega, by go_num, ?_, ?_, ?_⟩, by simp [intOf]; omega⟩
        · rw [putAll_take a l k x HX.out]; unfold putStep; rw [if_pos HK.out]
        · rw [putAll_take a l k x HX.out]; unfold putStep; rw [if_pos HK.out]; exact hown4
        · exact hb5
      · have he : ∀ W, (Op.equalIn 10000 63 (.agg (encK x.k)) (.agg (encK a.k))).run Try.prog W = .ok false W := fun W => (equalIn63 9997 x.k a.k W).trans (by rw [decide_eq_false hk])
        have HK := Lib.hid hk
        clear hk
        go_wp2_with fail
        refine wp_region_quiet (C := fun W => Below (wr.heap.size) (wr) W) (by kernel_rfl) (by kernel_rfl) ((Below.refl _ _).drew) ?_
        repeat
          (with_reducible refine wpQuiet_step (fun K hK => ?_)
           go_simp
           first
             | (refine hK _ ?_; clear hK K)
             | (apply Exists.intro
                refine ⟨fun W hW => ?_, hK _ ?_⟩
                (obtain ⟨hc, hf⟩ := bcB hW
                 first
                 | (go_simp; exact rfl)
                 | (fail))
                clear hK K))
        refine wpQuiet_nil ?_
        intro w2 hb2
        obtain ⟨hc, hf⟩ := bcB hb2
        go_wp2_with fail
        cases hd : (putAll a (l.take k)).2
        · have HD := Lib.hid hd
          clear hd
          cases hls : kLess a.k x.k
          · have HL := Lib.hid hls
            have HST : Hid (putStep a (putAll a (l.take k)) x = ((putAll a (l.take k)).1 ++ [x], false)) := by show putStep _ _ _ = _; unfold putStep; rw [if_neg HK.out, HD.out, hls]; rfl
            clear hls
            ·
              refine wp_region_quiet (C := fun W => Below (wr.heap.size) (wr) W) (by kernel_rfl) (by kernel_rfl) (hb2.drew) ?_
              repeat
                (with_reducible refine wpQuiet_step (fun K hK => ?_)
                 go_simp
                 first
                   | (refine hK _ ?_; clear hK K)
                   | (apply Exists.intro
                      refine ⟨fun W hW => ?_, hK _ ?_⟩
                      (obtain ⟨hc, hf⟩ := bcB hW
                       first
                       | (go_simp; exact rfl)
                       | (go_simp; go_at_call 71; refine (less71 a.k x.k hao.out.1 hxo.out.1 _).mono ?_; rintro e W2 ⟨rfl, hb⟩; exact ⟨by rw [HL.out], hW.trans (hb.mono hW.size)⟩))
                      clear hK K))
              refine wpQuiet_nil ?_
              intro w3 hb3
              obtain ⟨hc, hf⟩ := bcB hb3
              go_wp2_with (first | (at_builtin; refine appA rfl _ _ rfl (w.heap.size + 1) _ _ rfl (World.ownsRow.alloc (own_below' HW.out hb3) _) w3.heap.size 1 x rfl (fun j => (Blk.new w3 67 _).cell j) (Nat.le_trans (putAll_len a _) (by have := List.length_take_le k l; omega)) (by have := hb3.size; simp; omega) (fun v' w4 hown4 hgrow4 => ?_)))
              refine ⟨⟨k + 1, by omega, by go_num, ?_, ?_, ?_⟩, by simp [intOf]; omega⟩
              · rw [putAll_take a l k x HX.out, HST.out]
              · rw [putAll_take a l k x HX.out, HST.out]; exact hown4
              · exact Below.grown ((hC1 _ hb3).alloc (by have := hb3.size; omega) _) hgrow4 (by have := hb3.size; simp; omega) (fun j hj => (World.ownsRow.lt (own_below' HW.out hb3) _ hj).1)
          · have HL := Lib.hid hls
            have HST : Hid (putStep a (putAll a (l.take k)) x = ((putAll a (l.take k)).1 ++ [a] ++ [x], true)) := by show putStep _ _ _ = _; unfold putStep; rw [if_neg HK.out, HD.out, hls, List.append_assoc]; rfl
            have hpl : (putAll a (l.take k)).1.length ≤ 1000001 := Nat.le_trans (putAll_len a _) (by have := List.length_take_le k l; omega)
            clear hls
            refine wp_region_quiet (C := fun W => Below (wr.heap.size) (wr) W) (by kernel_rfl) (by kernel_rfl) (hb2.drew) ?_
            repeat
              (with_reducible refine wpQuiet_step (fun K hK => ?_)
               go_simp
               first
                 | (refine hK _ ?_; clear hK K)
                 | (apply Exists.intro
                    refine ⟨fun W hW => ?_, hK _ ?_⟩
                    (obtain ⟨hc, hf⟩ := bcB hW
                     first
                     | (go_simp; exact rfl)
                     | (go_simp; go_at_call 71; refine (less71 a.k x.k hao.out.1 hxo.out.1 _).mono ?_; rintro e W2 ⟨rfl, hb⟩; exact ⟨by rw [HL.out], hW.trans (hb.mono hW.size)⟩))
                    clear hK K))
            refine wpQuiet_nil ?_
            intro w3 hb3
            obtain ⟨hc, hf⟩ := bcB hb3
            go_wp2_with (first
              | (at_builtin; refine appA rfl (.tmp 48) (.tmp 50) rfl (w.heap.size + 1) _ _ rfl (World.ownsRow.alloc (own_below' HW.out hb3) _) w3.heap.size 1 a rfl (fun j => (Blk.new w3 67 _).cell j) (by omega) (by have := hb3.size; simp; omega) (fun v' w4 hown4 hgrow4 => ?_); have hB4 : Below (w.heap.size + 1) (w.alloc (.cells (encA a) 67)) w4 := Below.grown ((hC1 _ hb3).alloc (by have := hb3.size; omega) _) hgrow4 (by have := hb3.size; simp; omega) (fun j hj => (World.ownsRow.lt (own_below' HW.out hb3) _ hj).1); have HW4 := Lib.hid hown4; clear hown4 hgrow4)
              | (at_builtin; refine appA rfl (.tmp 52) (.tmp 57) rfl (w.heap.size + 1) _ _ rfl (World.ownsRow.alloc HW4.out _) w4.heap.size 1 x rfl (fun j => (Blk.new w4 67 _).cell j) (by simp; omega) (by have := hB4.size; simp at this ⊢; omega) (fun v5 w5 hown5 hgrow5 => ?_)))
            refine ⟨⟨k + 1, by omega, by go_num, ?_, ?_, ?_⟩, by simp [intOf]; omega⟩
            · rw [putAll_take a l k x HX.out, HST.out]
            · rw [putAll_take a l k x HX.out, HST.out]; exact hown5
            · exact Below.grown (hB4.alloc (by have := hB4.size; simpa using this) _) hgrow5 (by have := hB4.size; simp at this ⊢; omega) (fun j hj => (World.ownsRow.lt HW4.out _ hj).1)
        · have HD := Lib.hid hd
          have HST : Hid (putStep a (putAll a (l.take k)) x = ((putAll a (l.take k)).1 ++ [x], true)) := by show putStep _ _ _ = _; unfold putStep; rw [if_neg HK.out, HD.out]; rfl
          clear hd
          ·
            refine wp_region_quiet (C := fun W => Below (wr.heap.size) (wr) W) (by kernel_rfl) (by kernel_rfl) (hb2.drew) ?_
            repeat
              (with_reducible refine wpQuiet_step (fun K hK => ?_)
               go_simp
               first
                 | (refine hK _ ?_; clear hK K)
                 | (apply Exists.intro
                    refine ⟨fun W hW => ?_, hK _ ?_⟩
                    (obtain ⟨hc, hf⟩ := bcB hW
                     first
                     | (go_simp; exact rfl)
                     | (go_simp; go_at_call 71; refine (less71 a.k x.k hao.out.1 hxo.out.1 _).mono ?_; rintro e W2 ⟨rfl, hb⟩; exact ⟨by rw [HL.out], hW.trans (hb.mono hW.size)⟩))
                    clear hK K))
            refine wpQuiet_nil ?_
            intro w3 hb3
            obtain ⟨hc, hf⟩ := bcB hb3
            go_wp2_with (first | (at_builtin; refine appA rfl _ _ rfl (w.heap.size + 1) _ _ rfl (World.ownsRow.alloc (own_below' HW.out hb3) _) w3.heap.size 1 x rfl (fun j => (Blk.new w3 67 _).cell j) (Nat.le_trans (putAll_len a _) (by have := List.length_take_le k l; omega)) (by have := hb3.size; simp; omega) (fun v' w4 hown4 hgrow4 => ?_)))
            refine ⟨⟨k + 1, by omega, by go_num, ?_, ?_, ?_⟩, by simp [intOf]; omega⟩
            · rw [putAll_take a l k x HX.out, HST.out]
            · rw [putAll_take a l k x HX.out, HST.out]; exact hown4
            · exact Below.grown ((hC1 _ hb3).alloc (by have := hb3.size; omega) _) hgrow4 (by have := hb3.size; simp; omega) (fun j hj => (World.ownsRow.lt (own_below' HW.out hb3) _ hj).1)
    · obtain rfl : k = l.length := by omega
      have htk : l.take l.length = l := List.take_of_length_le (Nat.le_refl _)
      have HTK := Lib.hid htk
      clear htk HA
      have hsz : w.heap.size + 1 ≤ wr.heap.size := by have := hbr.size; simpa using this
      cases hd : (putAll a (l.take l.length)).2
      · have HD := Lib.hid hd
        have ha67 : (ldOp 67 (.pointer (some ⟨w.heap.size, 0, none⟩))).run Try.prog wr = .ok (.value (.agg (encA a))) wr := ld67 wr _ 0 (encA a) rfl (fun j _ => by rw [Nat.zero_add]; exact ((Blk.new w 67 (encA a)).below hbr (by omega)).cell j)
        clear hd
        go_wp2_with (at_builtin; refine appA rfl (.tmp 61) (.tmp 63) rfl (w.heap.size + 1) _ _ rfl (World.ownsRow.alloc HW.out _) wr.heap.size 1 a rfl (fun j => (Blk.new wr 67 _).cell j) (Nat.le_trans (putAll_len a _) (by have := List.length_take_le l.length l; omega)) (by simp; omega) (fun v4 w4 hown4 hgrow4 => ?_))
        go_ret
        refine ⟨_, rfl, ?_, ?_⟩
        · have e : lPut l a = (putAll a (l.take l.length)).1 ++ [a] := by unfold lPut; rw [HTK.out, if_neg (by have := HD.out; rw [HTK.out] at this; rw [this]; simp)]
          rw [e]
          exact own_mono hown4 (by omega)
        · exact ((Below.refl _ _).alloc (Nat.le_refl _) _).trans ((Below.grown (hbr.alloc hsz _) hgrow4 (by simp; omega) (fun j hj => (World.ownsRow.lt HW.out _ hj).1)).mono (by omega))
      · have HD := Lib.hid hd
        clear hd
        go_wp2_with fail
        go_ret
        refine ⟨_, rfl, ?_, ?_⟩
        · have e : lPut l a = (putAll a (l.take l.length)).1 := by unfold lPut; rw [HTK.out, if_pos (by have := HD.out; rw [HTK.out] at this; exact this)]
          rw [e]
          exact own_mono HW.out (by omega)
        · exact ((Below.refl _ _).alloc (Nat.le_refl _) _).trans (hbr.mono (by omega))
end Go.Proofs.Ythnhlbikfidpnaa
