/- The document's Join. -/
import Derived.Test.YthnhlbikfidpnaaS
namespace Go.Proofs.Ythnhlbikfidpnaa
open Go.RowKit
set_option maxHeartbeats 4000000
set_option maxRecDepth 100000
attribute [local go_sem ↓] exec_load67 exec_load65 exec_load63 exec_store67
theorem lJoin_len (l m : List Am) (ol : AOk l) (om : AOk m) : (lJoin l m).length ≤ l.length + m.length := by
  have := (merge_spec _ _ _ (Nat.le_refl _) (lNorm_ok ol) (lNorm_ok om) (lNorm_srt ol) (lNorm_srt om)).2.2.2.2
  have h1 := lNorm_len l
  have h2 := lNorm_len m
  unfold lJoin
  omega
theorem drop_cons {l : List Am} {p : Nat} {x : Am} (h : l[p]? = some x) : l.drop p = x :: l.drop (p + 1) := by
  obtain ⟨hp, rfl⟩ := List.getElem?_eq_some_iff.1 h
  exact List.drop_eq_getElem_cons hp
theorem drop_end {l : List Am} {p : Nat} (h : l.length ≤ p) : l.drop p = [] := List.drop_eq_nil_of_le h
theorem mg_lt {la lb out r : List Am} {p q : Nat} {x y : Am} (hx : la[p]? = some x) (hy : lb[q]? = some y) (h : out ++ merge (la.drop p) (lb.drop q) = r) (hl : kLess x.k y.k = true) :
    out ++ [x] ++ merge (la.drop (p + 1)) (lb.drop q) = r := by
  rw [← h, drop_cons hx, drop_cons hy, merge_lt hl]; simp
theorem mg_gt {la lb out r : List Am} {p q : Nat} {x y : Am} (hx : la[p]? = some x) (hy : lb[q]? = some y) (h : out ++ merge (la.drop p) (lb.drop q) = r) (hl : kLess y.k x.k = true) :
    out ++ [y] ++ merge (la.drop p) (lb.drop (q + 1)) = r := by
  rw [← h, drop_cons hx, drop_cons hy, merge_gt hl]; simp
theorem mg_eq {la lb out r : List Am} {p q : Nat} {x y : Am} (hx : la[p]? = some x) (hy : lb[q]? = some y) (h : out ++ merge (la.drop p) (lb.drop q) = r) (hl : kLess x.k y.k = false) (hg : kLess y.k x.k = false) :
    out ++ [⟨x.k, vMore x.v y.v⟩] ++ merge (la.drop (p + 1)) (lb.drop (q + 1)) = r := by
  rw [← h, drop_cons hx, drop_cons hy, merge_eq hl hg]; simp
theorem mg_l {la lb out r : List Am} {p q : Nat} {x : Am} (hx : la[p]? = some x) (hq : lb.length ≤ q) (h : out ++ merge (la.drop p) (lb.drop q) = r) :
    out ++ [x] ++ merge (la.drop (p + 1)) (lb.drop q) = r := by
  rw [← h, drop_cons hx, drop_end hq, merge_nil, merge_nil]; simp
theorem mg_r {la lb out r : List Am} {p q : Nat} {y : Am} (hp : la.length ≤ p) (hy : lb[q]? = some y) (h : out ++ merge (la.drop p) (lb.drop q) = r) :
    out ++ [y] ++ merge (la.drop p) (lb.drop (q + 1)) = r := by
  rw [← h, drop_end hp, drop_cons hy, nil_merge, nil_merge]; simp
theorem mg_end {la lb out r : List Am} {p q : Nat} (hp : la.length ≤ p) (hq : lb.length ≤ q) (h : out ++ merge (la.drop p) (lb.drop q) = r) : out = r := by
  rw [← h, drop_end hp, drop_end hq, merge_nil]; simp
theorem join44 (l m : List Am) (v u : Value) (w : World) (hv : Row encA 21 w v l) (hu : Row encA 21 w u m) (hl : l.length ≤ 500000) (hm : m.length ≤ 500000) (hok : Oks l) (hom : Oks m) :
    Calls Try.prog 44 #[v, u] w fun e w' => ∃ r, e = .returned r ∧ Row encA 21 w' r (lJoin l m) ∧ Below w.heap.size w w' := by
  have HV := Lib.hid hv
  have HU := Lib.hid hu
  have HOK := Lib.hid hok
  have HOM := Lib.hid hom
  clear hv hu hok hom
  go_enter Try.func44, Try.ntmps44
  go_wp2_with fail
  refine (norm41 l v _ HV.out (by omega) HOK.out).mono ?_
  rintro e w1 ⟨u1, rfl, hR1, hb1⟩
  go_wp2_with fail
  refine (norm41 m u _ (HU.out.ext hb1) (by omega) HOM.out).mono ?_
  rintro e w2 ⟨u2, rfl, hR2, hb2⟩
  have HT : Hid (∀ r, r = merge (lNorm l) (lNorm m) → r = lJoin l m) := fun r h => h
  have hla := Nat.le_trans (lNorm_len l) hl
  have hlb := Nat.le_trans (lNorm_len m) hm
  have HOA : Hid (Oks (lNorm l)) := aok_oks (lNorm_ok (oks_aok HOK.out))
  have HOB : Hid (Oks (lNorm m)) := aok_oks (lNorm_ok (oks_aok HOM.out))
  have hR1 := hR1.ext hb2
  have hbw : Below w.heap.size w w2 := hb1.trans (hb2.mono hb1.size)
  generalize lNorm l = la at *
  generalize lNorm m = lb at *
  clear HV HU HOK HOM hb1 hb2
  obtain ⟨A, c, rfl, hlc, hA⟩ := hR1
  obtain ⟨B, d, rfl, hld, hB⟩ := hR2
  have HA := Lib.hid hA
  have HB := Lib.hid hB
  clear hA hB
  go_wp2_with fail
  go_loopw [5, 6, 7] (fun o i j wr => ∃ (p q : Nat) (out : List Am), p ≤ la.length ∧ q ≤ lb.length ∧ i = .int .i64 p ∧ j = .int .i64 q ∧ Own wr w2.heap.size o out ∧ out ++ merge (la.drop p) (lb.drop q) = merge la lb ∧ out.length ≤ p + q ∧ Below w2.heap.size w2 wr) (fun _ i j _ => la.length + lb.length - (intOf i).toNat - (intOf j).toNat)
  case atStart => exact ⟨0, 0, [], by omega, by omega, rfl, rfl, World.ownsRow_nil _ _ _ _, rfl, by simp, Below.refl _ _⟩
  case round =>
    obtain ⟨p, q, out, hp, hq, rfl, rfl, how, hmg, hlo, hbr⟩ := hrel
    have HW := Lib.hid how
    have HM := Lib.hid hmg
    clear how hmg
    have hsz : w2.heap.size ≤ wr.heap.size := hbr.size
    have hC1 : ∀ W, Below wr.heap.size wr W → Below w2.heap.size w2 W := fun W hW => hbr.trans (hW.mono hsz)
    by_cases hpl : p < la.length
    · by_cases hql : q < lb.length
      · have hne1 : ((q : Int) == lb.length) = false := by simp; omega
        have hne2 : ((p : Int) == la.length) = false := by simp; omega
        obtain ⟨blx, offx, rfl, hbx, hxx⟩ := HA.out (by omega)
        obtain ⟨x, hkx⟩ : ∃ x, la[p]? = some x := ⟨la[p], List.getElem?_eq_getElem (by omega)⟩
        have hox : Hid x.ok := HOA.out p x hkx
        have hvx : Hid x.v.ok := hox.out.2
        have hcx : ∀ W, Below w2.heap.size w2 W → ∀ j, j < 21 → W.cell? ⟨blx, offx + p * 21 + j, none⟩ = (encA x)[j]? := fun W hW j hj => ((bcB hW).1 _ _ hbx).trans (hxx p x hkx j hj)
        have h67x : ∀ W, Below w2.heap.size w2 W → (ldOp 67 (.pointer (some ⟨blx, offx + p * 21, none⟩))).run Try.prog W = .ok (.value (.agg (encA x))) W := fun W hW => ld67 W blx _ (encA x) rfl (hcx W hW)
        have h63x : ∀ W, Below w2.heap.size w2 W → (ldOp 63 (.pointer (some ⟨blx, offx + p * 21, none⟩))).run Try.prog W = .ok (.value (.agg (encK x.k))) W := fun W hW => ld63 W blx _ (encK x.k) rfl (fun j hj => (hcx W hW j (by omega)).trans (keyCell x j hj))
        have h65x : ∀ W, Below w2.heap.size w2 W → (ldOp 65 (.pointer (some ⟨blx, offx + p * 21 + 12, none⟩))).run Try.prog W = .ok (.value (.agg (encV x.v))) W := fun W hW => ld65 W blx _ (encV x.v) rfl (fun j hj => by rw [Nat.add_assoc]; exact (hcx W hW (12 + j) (by omega)).trans (valCell x j hj))
        have HXx := Lib.hid hkx
        clear hxx hkx hcx HA
        obtain ⟨bly, offy, rfl, hby, hxy⟩ := HB.out (by omega)
        obtain ⟨y, hky⟩ : ∃ x, lb[q]? = some x := ⟨lb[q], List.getElem?_eq_getElem (by omega)⟩
        have hoy : Hid y.ok := HOB.out q y hky
        have hvy : Hid y.v.ok := hoy.out.2
        have hcy : ∀ W, Below w2.heap.size w2 W → ∀ j, j < 21 → W.cell? ⟨bly, offy + q * 21 + j, none⟩ = (encA y)[j]? := fun W hW j hj => ((bcB hW).1 _ _ hby).trans (hxy q y hky j hj)
        have h67y : ∀ W, Below w2.heap.size w2 W → (ldOp 67 (.pointer (some ⟨bly, offy + q * 21, none⟩))).run Try.prog W = .ok (.value (.agg (encA y))) W := fun W hW => ld67 W bly _ (encA y) rfl (hcy W hW)
        have h63y : ∀ W, Below w2.heap.size w2 W → (ldOp 63 (.pointer (some ⟨bly, offy + q * 21, none⟩))).run Try.prog W = .ok (.value (.agg (encK y.k))) W := fun W hW => ld63 W bly _ (encK y.k) rfl (fun j hj => (hcy W hW j (by omega)).trans (keyCell y j hj))
        have h65y : ∀ W, Below w2.heap.size w2 W → (ldOp 65 (.pointer (some ⟨bly, offy + q * 21 + 12, none⟩))).run Try.prog W = .ok (.value (.agg (encV y.v))) W := fun W hW => ld65 W bly _ (encV y.v) rfl (fun j hj => by rw [Nat.add_assoc]; exact (hcy W hW (12 + j) (by omega)).trans (valCell y j hj))
        have HXy := Lib.hid hky
        clear hxy hky hcy HB
        cases hls : kLess x.k y.k
        · have HL := Lib.hid hls
          cases hgs : kLess y.k x.k
          · have HG := Lib.hid hgs
            clear hls hgs
            go_wp2_with fail
            refine wp_region_quiet (C := fun W => Below (wr.heap.size) (wr) W) (by kernel_rfl) (by kernel_rfl) ((Below.refl _ _).drew) ?_
            repeat
              (with_reducible refine wpQuiet_step (fun K hK => ?_)
               go_simp
               first
                 | (refine hK _ ?_; clear hK K)
                 | (apply Exists.intro
                    refine ⟨fun W hW => ?_, hK _ ?_⟩
                    (obtain ⟨hc, hf⟩ := bcB hW
                     first
                     | (go_simp; exact rfl)
                     | (go_simp; go_at_call 71; refine (less71 x.k y.k hox.out.1 hoy.out.1 _).mono ?_; rintro e W2 ⟨rfl, hb⟩; exact ⟨by rw [HL.out], hW.trans (hb.mono hW.size)⟩))
                    clear hK K))
            refine wpQuiet_nil ?_
            intro w3 hb3
            obtain ⟨hc, hf⟩ := bcB hb3
            go_wp2_with fail
            refine wp_region_quiet (C := fun W => Below (wr.heap.size) (wr) W) (by kernel_rfl) (by kernel_rfl) (hb3.drew) ?_
            repeat
              (with_reducible refine wpQuiet_step (fun K hK => ?_)
               go_simp
               first
                 | (refine hK _ ?_; clear hK K)
                 | (apply Exists.intro
                    refine ⟨fun W hW => ?_, hK _ ?_⟩
                    (obtain ⟨hc, hf⟩ := bcB hW
                     first
                     | (go_simp; exact rfl)
                     | (go_simp; go_at_call 71; refine (less71 y.k x.k hoy.out.1 hox.out.1 _).mono ?_; rintro e W2 ⟨rfl, hb⟩; exact ⟨by rw [HG.out], hW.trans (hb.mono hW.size)⟩))
                    clear hK K))
            refine wpQuiet_nil ?_
            intro w4 hb4
            obtain ⟨hc, hf⟩ := bcB hb4
            go_wp2_with fail
            have HO2 : Hid (Own w4.drew w2.heap.size _ _) := Lib.hid (World.ownsRow.drew (own_below' HW.out hb4))
            have hS2 : Below w2.heap.size w2 w4.drew := (hC1 _ hb4).drew
            go_region_held3 (fun w' => Below w2.heap.size w2 w')
              (first | exact hS2 | exact hC1 _ hb4 | exact hS3 | exact hS3.alloc hz3 _ | exact hb6 | assumption)
              (first | (go_at_call 77; refine (more77 x.v y.v hvx hvy _).mono ?_; rintro e w5 ⟨rfl, hb5⟩; have hS3 : Below w2.heap.size w2 w5 := keepC hS2 (Nat.le_refl _) hb5; have hz3 := hS3.size) | (refine stepA rfl _ _ rfl w2.heap.size _ _ rfl (World.ownsRow.alloc (own_below' HO2.out hb5) _) w5.heap.size 1 ⟨x.k, vMore x.v y.v⟩ rfl (fun j => (Blk.new w5 67 _).cell j) (by omega) (by simp; omega) (fun v' w6 hown6 hgrow6 => ?_); have hb6 : Below w2.heap.size w2 w6 := Below.grown (hS3.alloc hz3 _) hgrow6 (by simp; omega) (fun j hj => (World.ownsRow.lt (own_below' HO2.out hb5) _ hj).1)))
            go_wp2_with fail
            exact ⟨⟨p + 1, q + 1, out ++ [⟨x.k, vMore x.v y.v⟩], by omega, by omega, by go_num, by go_num, hown6, mg_eq HXx.out HXy.out HM.out HL.out HG.out, by simp; omega, hb6⟩, by simp [intOf]; omega⟩
          · have HG := Lib.hid hgs
            clear hls hgs
            go_wp2_with fail
            refine wp_region_quiet (C := fun W => Below (wr.heap.size) (wr) W) (by kernel_rfl) (by kernel_rfl) ((Below.refl _ _).drew) ?_
            repeat
              (with_reducible refine wpQuiet_step (fun K hK => ?_)
               go_simp
               first
                 | (refine hK _ ?_; clear hK K)
                 | (apply Exists.intro
                    refine ⟨fun W hW => ?_, hK _ ?_⟩
                    (obtain ⟨hc, hf⟩ := bcB hW
                     first
                     | (go_simp; exact rfl)
                     | (go_simp; go_at_call 71; refine (less71 x.k y.k hox.out.1 hoy.out.1 _).mono ?_; rintro e W2 ⟨rfl, hb⟩; exact ⟨by rw [HL.out], hW.trans (hb.mono hW.size)⟩))
                    clear hK K))
            refine wpQuiet_nil ?_
            intro w3 hb3
            obtain ⟨hc, hf⟩ := bcB hb3
            go_wp2_with fail
            refine wp_region_quiet (C := fun W => Below (wr.heap.size) (wr) W) (by kernel_rfl) (by kernel_rfl) (hb3.drew) ?_
            repeat
              (with_reducible refine wpQuiet_step (fun K hK => ?_)
               go_simp
               first
                 | (refine hK _ ?_; clear hK K)
                 | (apply Exists.intro
                    refine ⟨fun W hW => ?_, hK _ ?_⟩
                    (obtain ⟨hc, hf⟩ := bcB hW
                     first
                     | (go_simp; exact rfl)
                     | (go_simp; go_at_call 71; refine (less71 y.k x.k hoy.out.1 hox.out.1 _).mono ?_; rintro e W2 ⟨rfl, hb⟩; exact ⟨by rw [HG.out], hW.trans (hb.mono hW.size)⟩))
                    clear hK K))
            refine wpQuiet_nil ?_
            intro w4 hb4
            obtain ⟨hc, hf⟩ := bcB hb4
            go_wp2_with (first | (at_builtin; refine appA rfl (.tmp 97) (.tmp 102) rfl w2.heap.size _ _ rfl (World.ownsRow.alloc (own_below' HW.out hb4) _) w4.heap.size 1 y rfl (fun j => (Blk.new w4 67 _).cell j) (by omega) (by have := hb4.size; simp; omega) (fun v' w5 hown5 hgrow5 => ?_)))
            refine ⟨⟨p, q + 1, out ++ [y], by omega, by omega, by go_num, by go_num, hown5, mg_gt HXx.out HXy.out HM.out HG.out, by simp; omega, ?_⟩, by simp [intOf]; omega⟩
            exact Below.grown ((hC1 _ hb4).alloc (by have := hb4.size; omega) _) hgrow5 (by have := hb4.size; simp; omega) (fun j hj => (World.ownsRow.lt (own_below' HW.out hb4) _ hj).1)
        · have HL := Lib.hid hls
          clear hls
          go_wp2_with fail
          refine wp_region_quiet (C := fun W => Below (wr.heap.size) (wr) W) (by kernel_rfl) (by kernel_rfl) ((Below.refl _ _).drew) ?_
          repeat
            (with_reducible refine wpQuiet_step (fun K hK => ?_)
             go_simp
             first
               | (refine hK _ ?_; clear hK K)
               | (apply Exists.intro
                  refine ⟨fun W hW => ?_, hK _ ?_⟩
                  (obtain ⟨hc, hf⟩ := bcB hW
                   first
                   | (go_simp; exact rfl)
                   | (go_simp; go_at_call 71; refine (less71 x.k y.k hox.out.1 hoy.out.1 _).mono ?_; rintro e W2 ⟨rfl, hb⟩; exact ⟨by rw [HL.out], hW.trans (hb.mono hW.size)⟩))
                  clear hK K))
          refine wpQuiet_nil ?_
          intro w3 hb3
          obtain ⟨hc, hf⟩ := bcB hb3
          go_wp2_with (first | (at_builtin; refine appA rfl (.tmp 70) (.tmp 75) rfl w2.heap.size _ _ rfl (World.ownsRow.alloc (own_below' HW.out hb3) _) w3.heap.size 1 x rfl (fun j => (Blk.new w3 67 _).cell j) (by omega) (by have := hb3.size; simp; omega) (fun v' w5 hown5 hgrow5 => ?_)))
          refine ⟨⟨p + 1, q, out ++ [x], by omega, by omega, by go_num, by go_num, hown5, mg_lt HXx.out HXy.out HM.out HL.out, by simp; omega, ?_⟩, by simp [intOf]; omega⟩
          exact Below.grown ((hC1 _ hb3).alloc (by have := hb3.size; omega) _) hgrow5 (by have := hb3.size; simp; omega) (fun j hj => (World.ownsRow.lt (own_below' HW.out hb3) _ hj).1)
      · obtain rfl : q = lb.length := by omega
        have hne1 : ((lb.length : Int) == lb.length) = true := by simp
        obtain ⟨blx, offx, rfl, hbx, hxx⟩ := HA.out (by omega)
        obtain ⟨x, hkx⟩ : ∃ x, la[p]? = some x := ⟨la[p], List.getElem?_eq_getElem (by omega)⟩
        have hox : Hid x.ok := HOA.out p x hkx
        have hvx : Hid x.v.ok := hox.out.2
        have hcx : ∀ W, Below w2.heap.size w2 W → ∀ j, j < 21 → W.cell? ⟨blx, offx + p * 21 + j, none⟩ = (encA x)[j]? := fun W hW j hj => ((bcB hW).1 _ _ hbx).trans (hxx p x hkx j hj)
        have h67x : ∀ W, Below w2.heap.size w2 W → (ldOp 67 (.pointer (some ⟨blx, offx + p * 21, none⟩))).run Try.prog W = .ok (.value (.agg (encA x))) W := fun W hW => ld67 W blx _ (encA x) rfl (hcx W hW)
        have h63x : ∀ W, Below w2.heap.size w2 W → (ldOp 63 (.pointer (some ⟨blx, offx + p * 21, none⟩))).run Try.prog W = .ok (.value (.agg (encK x.k))) W := fun W hW => ld63 W blx _ (encK x.k) rfl (fun j hj => (hcx W hW j (by omega)).trans (keyCell x j hj))
        have h65x : ∀ W, Below w2.heap.size w2 W → (ldOp 65 (.pointer (some ⟨blx, offx + p * 21 + 12, none⟩))).run Try.prog W = .ok (.value (.agg (encV x.v))) W := fun W hW => ld65 W blx _ (encV x.v) rfl (fun j hj => by rw [Nat.add_assoc]; exact (hcx W hW (12 + j) (by omega)).trans (valCell x j hj))
        have HXx := Lib.hid hkx
        clear hxx hkx hcx HA
        go_wp2_with fail
        refine wp_region_quiet (C := fun W => Below (wr.heap.size) (wr) W) (by kernel_rfl) (by kernel_rfl) ((Below.refl _ _).drew) ?_
        repeat
          (with_reducible refine wpQuiet_step (fun K hK => ?_)
           go_simp
           first
             | (refine hK _ ?_; clear hK K)
             | (apply Exists.intro
                refine ⟨fun W hW => ?_, hK _ ?_⟩
                (obtain ⟨hc, hf⟩ := bcB hW
                 first
                 | (go_simp; exact rfl)
                 | (fail))
                clear hK K))
        refine wpQuiet_nil ?_
        intro w3 hb3
        obtain ⟨hc, hf⟩ := bcB hb3
        go_wp2_with (first | (at_builtin; refine appA rfl (.tmp 70) (.tmp 75) rfl w2.heap.size _ _ rfl (World.ownsRow.alloc (own_below' HW.out hb3) _) w3.heap.size 1 x rfl (fun j => (Blk.new w3 67 _).cell j) (by omega) (by have := hb3.size; simp; omega) (fun v' w5 hown5 hgrow5 => ?_)))
        refine ⟨⟨p + 1, lb.length, out ++ [x], by omega, by omega, by go_num, by go_num, hown5, mg_l HXx.out (Nat.le_refl _) HM.out, by simp; omega, ?_⟩, by simp [intOf]; omega⟩
        exact Below.grown ((hC1 _ hb3).alloc (by have := hb3.size; omega) _) hgrow5 (by have := hb3.size; simp; omega) (fun j hj => (World.ownsRow.lt (own_below' HW.out hb3) _ hj).1)
    · obtain rfl : p = la.length := by omega
      by_cases hql : q < lb.length
      · have hne1 : ((q : Int) == lb.length) = false := by simp; omega
        have hne2 : ((la.length : Int) == la.length) = true := by simp
        have hnl : decide ((la.length : Int) < la.length) = false := by simp
        obtain ⟨bly, offy, rfl, hby, hxy⟩ := HB.out (by omega)
        obtain ⟨y, hky⟩ : ∃ x, lb[q]? = some x := ⟨lb[q], List.getElem?_eq_getElem (by omega)⟩
        have hoy : Hid y.ok := HOB.out q y hky
        have hvy : Hid y.v.ok := hoy.out.2
        have hcy : ∀ W, Below w2.heap.size w2 W → ∀ j, j < 21 → W.cell? ⟨bly, offy + q * 21 + j, none⟩ = (encA y)[j]? := fun W hW j hj => ((bcB hW).1 _ _ hby).trans (hxy q y hky j hj)
        have h67y : ∀ W, Below w2.heap.size w2 W → (ldOp 67 (.pointer (some ⟨bly, offy + q * 21, none⟩))).run Try.prog W = .ok (.value (.agg (encA y))) W := fun W hW => ld67 W bly _ (encA y) rfl (hcy W hW)
        have h63y : ∀ W, Below w2.heap.size w2 W → (ldOp 63 (.pointer (some ⟨bly, offy + q * 21, none⟩))).run Try.prog W = .ok (.value (.agg (encK y.k))) W := fun W hW => ld63 W bly _ (encK y.k) rfl (fun j hj => (hcy W hW j (by omega)).trans (keyCell y j hj))
        have h65y : ∀ W, Below w2.heap.size w2 W → (ldOp 65 (.pointer (some ⟨bly, offy + q * 21 + 12, none⟩))).run Try.prog W = .ok (.value (.agg (encV y.v))) W := fun W hW => ld65 W bly _ (encV y.v) rfl (fun j hj => by rw [Nat.add_assoc]; exact (hcy W hW (12 + j) (by omega)).trans (valCell y j hj))
        have HXy := Lib.hid hky
        clear hxy hky hcy HB
        go_wp2_with fail
        refine wp_region_quiet (C := fun W => Below (wr.heap.size) (wr) W) (by kernel_rfl) (by kernel_rfl) ((Below.refl _ _).drew) ?_
        repeat
          (with_reducible refine wpQuiet_step (fun K hK => ?_)
           go_simp
           first
             | (refine hK _ ?_; clear hK K)
             | (apply Exists.intro
                refine ⟨fun W hW => ?_, hK _ ?_⟩
                (obtain ⟨hc, hf⟩ := bcB hW
                 first
                 | (go_simp; exact rfl)
                 | (fail))
                clear hK K))
        refine wpQuiet_nil ?_
        intro w3 hb3
        obtain ⟨hc, hf⟩ := bcB hb3
        go_wp2_with fail
        refine wp_region_quiet (C := fun W => Below (wr.heap.size) (wr) W) (by kernel_rfl) (by kernel_rfl) (hb3.drew) ?_
        repeat
          (with_reducible refine wpQuiet_step (fun K hK => ?_)
           go_simp
           first
             | (refine hK _ ?_; clear hK K)
             | (apply Exists.intro
                refine ⟨fun W hW => ?_, hK _ ?_⟩
                (obtain ⟨hc, hf⟩ := bcB hW
                 first
                 | (go_simp; exact rfl)
                 | (fail))
                clear hK K))
        refine wpQuiet_nil ?_
        intro w4 hb4
        obtain ⟨hc, hf⟩ := bcB hb4
        go_wp2_with (first | (at_builtin; refine appA rfl (.tmp 97) (.tmp 102) rfl w2.heap.size _ _ rfl (World.ownsRow.alloc (own_below' HW.out hb4) _) w4.heap.size 1 y rfl (fun j => (Blk.new w4 67 _).cell j) (by omega) (by have := hb4.size; simp; omega) (fun v' w5 hown5 hgrow5 => ?_)))
        refine ⟨⟨la.length, q + 1, out ++ [y], by omega, by omega, by go_num, by go_num, hown5, mg_r (Nat.le_refl _) HXy.out HM.out, by simp; omega, ?_⟩, by simp [intOf]; omega⟩
        exact Below.grown ((hC1 _ hb4).alloc (by have := hb4.size; omega) _) hgrow5 (by have := hb4.size; simp; omega) (fun j hj => (World.ownsRow.lt (own_below' HW.out hb4) _ hj).1)
      · obtain rfl : q = lb.length := by omega
        go_wp2_with fail
        go_ret
        exact ⟨_, rfl, by rw [← HT.out _ (mg_end (Nat.le_refl _) (Nat.le_refl _) HM.out)]; exact own_row HW.out, hbw.trans (hbr.mono hbw.size)⟩
end Go.Proofs.Ythnhlbikfidpnaa
