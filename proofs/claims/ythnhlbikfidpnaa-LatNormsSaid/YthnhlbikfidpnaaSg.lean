/- lat.facts. -/
import Derived.Test.YthnhlbikfidpnaaSf
import Derived.Maps.OwnIn
namespace Go.Proofs.Ythnhlbikfidpnaa
open Go.RowKit Go.Shelf
set_option maxHeartbeats 2000000
set_option maxRecDepth 100000
attribute [local go_sem] Oper.semAt_some
attribute [local go_sem ↓] exec_load67 exec_load65 exec_load63 exec_store67 exec_store63 exec_store65
def fM (pre : List OkA) : List Am := pre.foldl (fun m x => mSet m x.1.k x.1.v) []
theorem fM_snoc (pre : List OkA) (x : OkA) : fM (pre ++ [x]) = mSet (fM pre) x.1.k x.1.v := by simp [fM, List.foldl_append]
theorem mSet_fresh : ∀ (m : List Am) (k : Ky) (v : Vl), (∀ a ∈ m, a.k ≠ k) → mSet m k v = m ++ [⟨k, v⟩]
  | [], _, _, _ => rfl
  | a :: m, k, v, h => by
    rw [mSet, if_neg (fun e => h a (by simp) e.symm), mSet_fresh m k v fun b hb => h b (by simp [hb])]; rfl
theorem fold_fresh : ∀ (L m : List Am), Dk (m ++ L) → L.foldl (fun m x => mSet m x.k x.v) m = m ++ L
  | [], m, _ => by simp
  | a :: L, m, h => by
    rw [List.foldl_cons, mSet_fresh m a.k a.v, show m ++ [(⟨a.k, a.v⟩ : Am)] = m ++ [a] from rfl, fold_fresh L (m ++ [a])]
    · simp
    · simpa using h
    · rw [Dk, List.pairwise_append] at h
      exact fun b hb => h.2.2 b hb a (by simp)
theorem srt_dk {l : List Am} (h : Srt l) : Dk l := h.imp fun h => kLess_ne h
theorem fM_all {ys : List OkA} {L : List Am} (h : ys.map (·.1) = L) (hs : Srt L) : fM ys = L := by
  subst h
  have := fold_fresh (ys.map (·.1)) [] (by rw [List.nil_append]; exact srt_dk hs)
  rw [List.foldl_map] at this
  exact this
theorem mapW_grown {W : World} {b : Nat} (m : List Am) : W.grownBy (mapW W b m) (some b) := by
  unfold mapW Go.ChangeMaps.setBlock
  exact ⟨rfl, rfl, rfl, by simp, fun k _ hk => by simp [Array.getElem?_setIfInBounds, show b ≠ k from fun e => hk (by rw [e])]⟩
theorem keepC_mapW {own : Nat → TypeId → Prop} {W : World} {b : Nat} {m0 : List Am} (hb : MapB W b m0) (m : List Am) : KeepC own W (mapW W b m) :=
  ⟨mapW_grown m |>.size, fun k _ _ _ _ hc => (mapW_grown m |>.block k (Array.getElem?_eq_some_iff.1 hc).1 (fun e => by
    injection e with e
    subst e
    rw [show W.heap[k]? = _ from hb] at hc
    cases hc)).trans hc⟩
theorem Blk.kept {W W' : World} {g : Nat} {t : TypeId} {cs : Array Value} {row : Option Nat} (h : Blk W g t cs) (hg : W.grownBy W' row) (hr : ∀ r, row = some r → ∃ o : Obj, W.heap[r]? = some o ∧ o.isCells = false) : Blk W' g t cs :=
  (hg.block g h.lt (fun e => by
    obtain ⟨o, ho, hc⟩ := hr g e.symm
    rw [show W.heap[g]? = _ from h] at ho
    cases ho
    cases hc)).trans h
theorem facts67 (l : List Am) (v : Value) (w : World) (hv : Row encA 21 w v l) (hl : l.length ≤ 500000) (hok : AOk l) :
    Calls Try.prog 67 #[v] w fun e w' => ∃ b, e = .returned (.map (some b)) ∧ MapB w' b (lNorm l) ∧ w.heap.size ≤ b ∧ Below w.heap.size w w' := by
  refine (callsIn_wide (n := 3)).1 ?_
  have HV := Lib.hid hv
  obtain ⟨A, c, rfl, hlc, _⟩ := hv
  have hmk : ∀ W, (Instr.makeMap 103 (some (.int .i64 l.length))).run Try.prog W = .ok (.map (some W.heap.size)) (W.alloc (.map #[] 0)) := fun W => by
    simp [Instr.makeMap, run_underlying und103]; rfl
  refine callsIn_of_wp_marks Try.func67 rfl trivial ?_ rfl
  simp only [Try.ntmps67, List.size_toArray, List.length_cons, List.length_nil, Nat.reduceAdd, Nat.reduceSub, Array.replicate_succ, Array.replicate_zero, List.push_toArray, List.append_toArray, List.nil_append, List.cons_append]
  gi_wp2_with (refine ⟨trivial, ?_⟩; gi_at_call 32; refine (callsIn_wide.2 (Each32 _ _ _ _)).mono ?_; rintro e w1 ⟨rfl, rfl⟩)
  have hR0 := (((HV.out.alloc (.map #[] 0)).alloc (.cells #[.map (some w.heap.size)] 103)).alloc (.cells #[.slice A l.length c] 54))
  have hm0 : MapB (((w.alloc (.map #[] 0)).alloc (.cells #[.map (some w.heap.size)] 103)).alloc (.cells #[.slice A l.length c] 54)) w.heap.size [] := ((MapB.new w).ext ((Below.refl _ _).alloc (Nat.le_refl _) _)).ext ((Below.refl _ _).alloc (Nat.le_refl _) _)
  have hc0 : Blk (((w.alloc (.map #[] 0)).alloc (.cells #[.map (some w.heap.size)] 103)).alloc (.cells #[.slice A l.length c] 54)) (w.heap.size + 1) 103 #[.map (some w.heap.size)] := (blk2 w (.map #[] 0) 103 _).alloc _
  have hs0 : (((w.alloc (.map #[] 0)).alloc (.cells #[.map (some w.heap.size)] 103)).alloc (.cells #[.slice A l.length c] 54)).heap.size = w.heap.size + 3 := by simp
  have hBs : (((w.alloc (.map #[] 0)).alloc (.cells #[.map (some w.heap.size)] 103)).alloc (.cells #[.slice A l.length c] 54)).cell? ⟨w.heap.size + 1 + 1, 0, none⟩ = some (.slice A l.length c) := by
    have := Blk.new ((w.alloc (.map #[] 0)).alloc (.cells #[.map (some w.heap.size)] 103)) 54 #[.slice A l.length c]
    rw [World.size_alloc, World.size_alloc] at this
    rw [this.cell]; rfl
  have hbel0 : Below w.heap.size w (((w.alloc (.map #[] 0)).alloc (.cells #[.map (some w.heap.size)] 103)).alloc (.cells #[.slice A l.length c] 54)) := (((Below.refl _ _).alloc (Nat.le_refl _) _).alloc (by simp) _).alloc (by simp; omega) _
  generalize (((w.alloc (.map #[] 0)).alloc (.cells #[.map (some w.heap.size)] 103)).alloc (.cells #[.slice A l.length c] 54)) = W0 at *
  clear hmk
  refine wpIn_rangeFunc_ownH rfl (by omega) (gf := 63) (lb := #[.pointer (some ⟨w.heap.size + 1 + 1, 0, none⟩)]) rfl trivial (enters_of Try.func63 (by kernel_rfl) rfl)
    (each63 l A l.length c (w.heap.size + 1 + 1) 2 (fun _ _ => False) W0 (by omega) hBs (fun _ h => h.elim) hR0 hl hok)
    KeepC.trans (fun W r o o' _ h1 h2 _ => keepC_b W r o o' h1 h2) (Below.refl _ _) (fun _ => rfl)
    (fun pre W => MapB W w.heap.size (fM pre) ∧ Blk W (w.heap.size + 1) 103 #[.map (some w.heap.size)] ∧ Below w.heap.size w W)
    (fun _ _ _ => False)
    (fun s W W' row h hg hr => ⟨(hg.block _ h.1.lt (fun e => by have := (hr _ e.symm).1; omega)).trans h.1, h.2.1.kept hg (fun r e => (hr r e).2), h.2.2.grown hg h.2.2.size (fun k e => by have := (hr k e).1; omega)⟩)
    (fun _ _ _ _ _ hs _ _ => hs)
    ⟨hm0, hc0, hbel0⟩
    (fun x a' W => ∃ g5 g6, Blk W g5 63 (encK x.1.k) ∧ Blk W g6 65 (encV x.1.v) ∧ a' = { tmps := #[.slice A l.length c, undef, .map none, .pointer (some ⟨w.heap.size + 1, 0, none⟩), .pointer (some ⟨g5, 0, none⟩), .pointer (some ⟨g6, 0, none⟩), .slice A l.length c, .int .i64 l.length, .map (some w.heap.size), .slice A l.length c, .func (.func 63) #[] #[.pointer (some ⟨w.heap.size + 1 + 1, 0, none⟩)], .agg (encK x.1.k), .agg (encV x.1.v), undef, undef, undef, undef], defers := [] })
    (fun x a' s W W' row h hg hr => by
      obtain ⟨g5, g6, h1, h2, h3⟩ := h
      exact ⟨g5, g6, h1.kept hg (fun r e => (hr r e).2), h2.kept hg (fun r e => (hr r e).2), h3⟩) ?assign ?body ?done ?stop
  case assign =>
    rintro r pre x W K ⟨hm, hc, hb⟩ hK
    have hst63 : ∀ cs : Array Value, cs.size = 12 → (stOp 63 (.pointer (some ⟨W.heap.size, 0, none⟩)) (.agg (encK x.1.k))).run Try.prog (W.alloc (.cells cs 63)) = .ok .skip (W.alloc (.cells (encK x.1.k) 63)) := fun cs h0 => st63 W cs h0 x.1.k
    have hst65 : ∀ ds : Array Value, ds.size = 9 → (stOp 65 (.pointer (some ⟨W.heap.size + 1, 0, none⟩)) (.agg (encV x.1.v))).run Try.prog ((W.alloc (.cells (encK x.1.k) 63)).alloc (.cells ds 65)) = .ok .skip ((W.alloc (.cells (encK x.1.k) 63)).alloc (.cells (encV x.1.v) 65)) := fun ds h0 => by
      have := st65 (W.alloc (.cells (encK x.1.k) 63)) ds h0 x.1.v
      rwa [World.size_alloc] at this
    have hbb : Below W.heap.size W ((W.alloc (.cells (encK x.1.k) 63)).alloc (.cells (encV x.1.v) 65)) := ((Below.refl _ _).alloc (Nat.le_refl _) _).alloc (by simp) _
    have hbz := hb.size
    have HM := Lib.hid hm
    have HC := Lib.hid hc
    clear hm hc
    unfold encS
    gi_wp2
    exact hK _ _ (KeepsFrom.of_grownBy (grown_of_below hbb) (fun j e => by cases e)) (KeepC.of_below hbb) ⟨HM.out.ext hbb, HC.out.ext hbb, hb.trans (hbb.mono hbz)⟩ ⟨W.heap.size, W.heap.size + 1, (Blk.new _ _ _).alloc _, blk2 W _ 65 _, rfl⟩
  case body =>
    rintro r pre x a' W hlr ⟨rr, hrr⟩ ⟨hm, hc, hb⟩ ⟨g5, g6, B5, B6, rfl⟩ hlt
    have hc1 : W.cell? ⟨w.heap.size + 1, 0, none⟩ = some (.map (some w.heap.size)) := by rw [hc.cell]; rfl
    have hlk := ldB63 (off := 0) B5 x.1.k (fun j _ => by rw [Nat.zero_add])
    have hlv := ldB65 (off := 0) B6 x.1.v (fun j _ => by rw [Nat.zero_add])
    have hup := run_mapUpdate103' W w.heap.size (fM pre) hm x.1.k x.1.v
    have HM := Lib.hid hm
    have HC := Lib.hid hc
    clear hm hc B5 B6 hrr
    gi_wp2
    exact ⟨KeepsFrom.of_grownBy (mapW_grown _) (fun j e => by cases e; omega), keepC_mapW HM.out _, by rw [fM_snoc]; exact mapW_map HM.out.lt _, mapW_blk HC.out (by omega) _, below_mapW hb (Nat.le_refl _) _⟩
  case done =>
    rintro D ys W hD hys ⟨hm, hc, hb⟩ hK
    have hc1 : W.cell? ⟨w.heap.size + 1, 0, none⟩ = some (.map (some w.heap.size)) := by rw [hc.cell]; rfl
    have HM := Lib.hid hm
    have HYS := Lib.hid hys
    clear hm hc hys
    gi_wp2
    refine ⟨by simp, .inl ⟨_, _, rfl, run_takeDeferred hK, ?_⟩⟩
    refine ⟨_, results_tmp rfl _ _ _, w.heap.size, rfl, ?_, Nat.le_refl _, hb.grown (grownBy_putObj' W D _) hb.size (fun k e => by cases e; omega)⟩
    rw [← fM_all HYS.out (lNorm_srt hok)]
    exact (World.putObj_heap_other (by omega)).trans HM.out
  case stop =>
    rintro D c' pre W _ _ h _
    exact h.elim
end Go.Proofs.Ythnhlbikfidpnaa
