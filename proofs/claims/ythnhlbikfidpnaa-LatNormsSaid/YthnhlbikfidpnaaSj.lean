/- lat.Meet. -/
import Derived.Test.YthnhlbikfidpnaaSi
namespace Go.Proofs.Ythnhlbikfidpnaa
open Go.RowKit Go.Shelf
set_option maxHeartbeats 2000000
set_option maxRecDepth 100000
attribute [local go_sem] Oper.semAt_some
attribute [local go_sem ↓] exec_load67 exec_load65 exec_load63 exec_store67 exec_store63 exec_store65
def tStep (B : List Am) (m : List Am) (x : OkA) : List Am := match look B x.1.k with
  | none => m
  | some u => mSet m x.1.k (if vOver x.1.v u then u else x.1.v)
def tM (B : List Am) (pre : List OkA) : List Am := pre.foldl (tStep B) []
theorem tM_snoc (B : List Am) (pre : List OkA) (x : OkA) : tM B (pre ++ [x]) = tStep B (tM B pre) x := by simp [tM, List.foldl_append]
theorem tStep_none {B m : List Am} {x : OkA} (h : look B x.1.k = none) : tStep B m x = m := by unfold tStep; rw [h]
theorem tStep_some {B m : List Am} {x : OkA} {u : Vl} (h : look B x.1.k = some u) : tStep B m x = mSet m x.1.k (if vOver x.1.v u then u else x.1.v) := by unfold tStep; rw [h]
theorem tStep_ok {B m : List Am} (hB : AOk B) (hm : AOk m) (x : OkA) : AOk (tStep B m x) := by
  unfold tStep
  cases h : look B x.1.k with
  | none => exact hm
  | some u =>
    intro a ha
    rcases mSet_mem ha with ha | rfl
    · exact hm a ha
    · refine ⟨x.2.1, ?_⟩
      show (if vOver x.1.v u = true then u else x.1.v).ok
      split
      · exact look_ok hB h
      · exact x.2.2
theorem tM_ok {B : List Am} (hB : AOk B) : ∀ (pre : List OkA) (m : List Am), AOk m → AOk (pre.foldl (tStep B) m)
  | [], _, h => h
  | x :: pre, m, h => tM_ok hB pre (tStep B m x) (tStep_ok hB h x)
theorem tM_len (B : List Am) : ∀ (pre : List OkA) (m : List Am), (pre.foldl (tStep B) m).length ≤ m.length + pre.length
  | [], m => by simp
  | x :: pre, m => by
    have h1 := tM_len B pre (tStep B m x)
    have h2 : (tStep B m x).length ≤ m.length + 1 := by
      unfold tStep
      split
      · omega
      · exact mSet_len _ _ _
    rw [List.foldl_cons, List.length_cons]
    omega
theorem stW_grown {W : World} {g : Nat} (off : Nat) (xs : Array Value) : W.grownBy (stW W g off xs) (some g) := by
  obtain ⟨r1, r2, r3, r4⟩ := rest_setCells (g := g) xs.toList off W
  refine ⟨?_, ?_, ?_, Nat.le_of_eq (stW_size W g off xs).symm, fun k _ hk => ?_⟩
  · unfold stW; exact r1
  · unfold stW; exact r2
  · unfold stW; exact r4
  · unfold stW; exact heap_setCells_far (fun e => hk (by rw [e])) _ _ _
theorem keepC_stW {own : Nat → TypeId → Prop} {W : World} {g : Nat} {T : TypeId} {cs : Array Value} (hb : Blk W g T cs) (ho : own g T) (off : Nat) (xs : Array Value) : KeepC own W (stW W g off xs) :=
  ⟨(stW_grown off xs).size, fun k c t f hk hc => ((stW_grown off xs).block k (Array.getElem?_eq_some_iff.1 hc).1 (fun e => by
    injection e with e
    subst e
    rw [show W.heap[k]? = _ from hb] at hc
    injection hc with hc
    injection hc with h1 h2 h3
    subst h2
    exact hk ho)).trans hc⟩
theorem keepsFrom_stW {B : Nat} {W : World} {g : Nat} {T : TypeId} {cs : Array Value} (hb : Blk W g T cs) (off : Nat) (xs : Array Value) : KeepsFrom B W (stW W g off xs) :=
  ⟨(stW_grown off xs).size, fun k o _ hk ho => ((stW_grown off xs).block k (Array.getElem?_eq_some_iff.1 hk).1 (fun e => by
    injection e with e
    subst e
    rw [show W.heap[k]? = _ from hb] at hk
    injection hk with hk
    subst hk
    cases ho)).trans hk⟩
theorem MapB.mapW {W : World} {b c : Nat} {m m' : List Am} (h : MapB W b m) (hc : b ≠ c) : MapB (mapW W c m') b m := ((mapW_grown m').block b h.lt (fun e => hc (by injection e))).trans h
theorem keepC_alloc {own : Nat → TypeId → Prop} (W : World) (o : Obj) : KeepC own W (W.alloc o) := KeepC.of_below ((Below.refl _ _).alloc (Nat.le_refl _) _)
theorem keepsFrom_alloc {B : Nat} (W : World) (o : Obj) : KeepsFrom B W (W.alloc o) := KeepsFrom.of_grownBy (grown_of_below ((Below.refl _ _).alloc (Nat.le_refl _) _)) (fun j e => by cases e)
theorem blk_ne {W : World} {g g' : Nat} {t t' : TypeId} {cs cs' : Array Value} (h : Blk W g t cs) (h' : Blk W g' t' cs') (ht : t ≠ t') : g ≠ g' := by
  rintro rfl
  unfold Blk at h h'
  rw [h] at h'
  injection h' with h'
  injection h' with _ h' _
  exact ht h'
theorem Row.putD {α : Type} {enc : α → Array Value} {k : Nat} {w : World} {v : Value} {l : List α} (h : Row enc k w v l) (D : Nat) {o o' : Obj} (hD : w.heap[D]? = some o) (ho : o.isCells = false := by rfl) (hc : ∀ x : α, ∀ j, j < k → (enc x)[j]? ≠ none := by intro x j hj; simp; omega) (hk : 0 < k := by omega) : Row enc k (w.putObj D o') v l := by
  obtain ⟨A, c, rfl, hlc, hr⟩ := h
  refine ⟨A, c, rfl, hlc, fun hl => ?_⟩
  obtain ⟨b, off, rfl, hb, hx⟩ := hr hl
  refine ⟨b, off, rfl, by simpa using hb, fun i x hi j hj => ?_⟩
  have hne : b ≠ D := by
    rintro rfl
    have := hx i x hi j hj
    cases hv : (enc x)[j]? with
    | none => exact hc x j hj hv
    | some v =>
      rw [hv] at this
      unfold World.cell? at this
      simp only [hD] at this
      cases o <;> simp at this ho
      cases ho
  rw [← hx i x hi j hj]
  exact World.cell?_of_block (World.putObj_heap_other hne)
theorem Meet62 (l m : List Am) (v u : Value) (w : World) (hv : Row encA 21 w v l) (hu : Row encA 21 w u m) (hl : l.length ≤ 500000) (hlm : m.length ≤ 500000) (hok : AOk l) (hom : AOk m) :
    Calls Try.prog 62 #[v, u] w fun e w' => ∃ r l' ys, e = .returned r ∧ Row encA 21 w' r l' ∧ ys.map (·.1) = lNorm l ∧ l'.Perm (tM (lNorm m) ys) ∧ Below w.heap.size w w' := by
  refine (callsIn_wide (n := 3)).1 ?_
  have HU := Lib.hid hu
  have HV := Lib.hid hv
  obtain ⟨A, c, rfl, hlc, _⟩ := hv
  have hmm := @run_makeMap Try.prog
  refine callsIn_of_wp_marks Try.func62 rfl trivial ?_ rfl
  simp only [Try.ntmps62, List.size_toArray, List.length_cons, List.length_nil, Nat.reduceAdd, Nat.reduceSub, Array.replicate_succ, Array.replicate_zero, List.push_toArray, List.append_toArray, List.nil_append, List.cons_append]
  gi_wp2_with (first
    | (refine ⟨trivial, ?_⟩; gi_at_call 67; refine (callsIn_wide.2 (facts67 m u _ HU.out hlm hom)).mono ?_; rintro e w3 ⟨bk, rfl, hMk, hbk, hb3⟩)
    | (refine ⟨trivial, ?_⟩; gi_at_call 32; refine (callsIn_wide.2 (Each32 _ _ _ _)).mono ?_; rintro e w1 ⟨rfl, rfl⟩))
  have hR3 := (((((HV.out.ext hb3).alloc (.map #[] 0)).alloc (.cells #[.map (some bk)] 103)).alloc (.cells #[.map (some w3.heap.size)] 103)).alloc (.cells #[.slice A l.length c] 54))
  have hml : bk < w3.heap.size := hMk.lt
  have hE : Below w3.heap.size w3 ((((w3.alloc (.map #[] 0)).alloc (.cells #[.map (some bk)] 103)).alloc (.cells #[.map (some w3.heap.size)] 103)).alloc (.cells #[.slice A l.length c] 54)) := ((((Below.refl _ _).alloc (Nat.le_refl _) _).alloc (by simp) _).alloc (by simp only [World.size_alloc]; omega) _).alloc (by simp only [World.size_alloc]; omega) _
  have hm0 : MapB ((((w3.alloc (.map #[] 0)).alloc (.cells #[.map (some bk)] 103)).alloc (.cells #[.map (some w3.heap.size)] 103)).alloc (.cells #[.slice A l.length c] 54)) w3.heap.size [] := (MapB.new w3).ext (((((Below.refl _ _).alloc (Nat.le_refl _) _).alloc (by simp only [World.size_alloc]; omega) _).alloc (by simp only [World.size_alloc]; omega) _))
  have hk0 : MapB ((((w3.alloc (.map #[] 0)).alloc (.cells #[.map (some bk)] 103)).alloc (.cells #[.map (some w3.heap.size)] 103)).alloc (.cells #[.slice A l.length c] 54)) bk (lNorm m) := hMk.ext hE
  have hc0 : Blk ((((w3.alloc (.map #[] 0)).alloc (.cells #[.map (some bk)] 103)).alloc (.cells #[.map (some w3.heap.size)] 103)).alloc (.cells #[.slice A l.length c] 54)) (w3.heap.size + 1) 103 #[.map (some bk)] := ((blk2 w3 (.map #[] 0) 103 _).alloc _).alloc _
  have hd0 : Blk ((((w3.alloc (.map #[] 0)).alloc (.cells #[.map (some bk)] 103)).alloc (.cells #[.map (some w3.heap.size)] 103)).alloc (.cells #[.slice A l.length c] 54)) (w3.heap.size + 1 + 1) 103 #[.map (some w3.heap.size)] := by
    have := (Blk.new ((w3.alloc (.map #[] 0)).alloc (.cells #[.map (some bk)] 103)) 103 #[.map (some w3.heap.size)]).alloc (.cells #[.slice A l.length c] 54)
    rwa [World.size_alloc, World.size_alloc] at this
  have hBs : ((((w3.alloc (.map #[] 0)).alloc (.cells #[.map (some bk)] 103)).alloc (.cells #[.map (some w3.heap.size)] 103)).alloc (.cells #[.slice A l.length c] 54)).cell? ⟨w3.heap.size + 1 + 1 + 1, 0, none⟩ = some (.slice A l.length c) := by
    have := Blk.new (((w3.alloc (.map #[] 0)).alloc (.cells #[.map (some bk)] 103)).alloc (.cells #[.map (some w3.heap.size)] 103)) 54 #[.slice A l.length c]
    rw [World.size_alloc, World.size_alloc, World.size_alloc] at this
    rw [this.cell]; rfl
  have hs0 : ((((w3.alloc (.map #[] 0)).alloc (.cells #[.map (some bk)] 103)).alloc (.cells #[.map (some w3.heap.size)] 103)).alloc (.cells #[.slice A l.length c] 54)).heap.size = w3.heap.size + 4 := by simp
  have hbel0 : Below w.heap.size w ((((w3.alloc (.map #[] 0)).alloc (.cells #[.map (some bk)] 103)).alloc (.cells #[.map (some w3.heap.size)] 103)).alloc (.cells #[.slice A l.length c] 54)) := hb3.trans (hE.mono hb3.size)
  have hb3z := hb3.size
  generalize ((((w3.alloc (.map #[] 0)).alloc (.cells #[.map (some bk)] 103)).alloc (.cells #[.map (some w3.heap.size)] 103)).alloc (.cells #[.slice A l.length c] 54)) = W0 at *
  clear hmm hMk hE
  refine wpIn_rangeFunc_ownH rfl (by omega) (gf := 63) (lb := #[.pointer (some ⟨w3.heap.size + 1 + 1 + 1, 0, none⟩)]) rfl trivial (enters_of Try.func63 (by kernel_rfl) rfl)
    (each63 l A l.length c (w3.heap.size + 1 + 1 + 1) 2 (fun _ t => t = 65) W0 (by omega) hBs (fun _ h => absurd h (by decide)) hR3 hl hok)
    KeepC.trans (fun W r o o' _ h1 h2 _ => keepC_b W r o o' h1 h2) (Below.refl _ _) (fun _ => rfl)
    (fun pre W => MapB W w3.heap.size (tM (lNorm m) pre) ∧ MapB W bk (lNorm m) ∧ Blk W (w3.heap.size + 1) 103 #[.map (some bk)] ∧ Blk W (w3.heap.size + 1 + 1) 103 #[.map (some w3.heap.size)] ∧ Below w.heap.size w W)
    (fun _ _ _ => False)
    (fun s W W' row h hg hr => ⟨(hg.block _ h.1.lt (fun e => by have := (hr _ e.symm).1; omega)).trans h.1, (hg.block _ h.2.1.lt (fun e => by have := (hr _ e.symm).1; omega)).trans h.2.1, h.2.2.1.kept hg (fun r e => (hr r e).2), h.2.2.2.1.kept hg (fun r e => (hr r e).2), h.2.2.2.2.grown hg h.2.2.2.2.size (fun k e => by have := (hr k e).1; omega)⟩)
    (fun _ _ _ _ _ hs _ _ => hs)
    ⟨hm0, hk0, hc0, hd0, hbel0⟩
    (fun x a' W => ∃ g5 g6, w.heap.size ≤ g6 ∧ Blk W g5 63 (encK x.1.k) ∧ Blk W g6 65 (encV x.1.v) ∧ a' = { tmps := #[.slice A l.length c, u, undef, undef, .slice none 0 0, .pointer (some ⟨w3.heap.size + 1, 0, none⟩), .pointer (some ⟨w3.heap.size + 1 + 1, 0, none⟩), .pointer (some ⟨g5, 0, none⟩), .pointer (some ⟨g6, 0, none⟩), undef, undef, u, .map (some bk), .map (some w3.heap.size), .slice A l.length c, .func (.func 63) #[] #[.pointer (some ⟨w3.heap.size + 1 + 1 + 1, 0, none⟩)], .agg (encK x.1.k), .agg (encV x.1.v), undef, undef, undef, undef, undef, undef, undef, undef, undef, undef, undef, undef, undef, undef, undef, undef, undef], defers := [] })
    (fun x a' s W W' row h hg hr => by
      obtain ⟨g5, g6, h01, h1, h2, h3⟩ := h
      exact ⟨g5, g6, h01, h1.kept hg (fun r e => (hr r e).2), h2.kept hg (fun r e => (hr r e).2), h3⟩) ?assign ?body ?done ?stop
  case assign =>
    rintro r pre x W K ⟨hm, hk, hc, hd, hb⟩ hK
    have hst63 : ∀ cs : Array Value, cs.size = 12 → (stOp 63 (.pointer (some ⟨W.heap.size, 0, none⟩)) (.agg (encK x.1.k))).run Try.prog (W.alloc (.cells cs 63)) = .ok .skip (W.alloc (.cells (encK x.1.k) 63)) := fun cs h0 => st63 W cs h0 x.1.k
    have hst65 : ∀ ds : Array Value, ds.size = 9 → (stOp 65 (.pointer (some ⟨W.heap.size + 1, 0, none⟩)) (.agg (encV x.1.v))).run Try.prog ((W.alloc (.cells (encK x.1.k) 63)).alloc (.cells ds 65)) = .ok .skip ((W.alloc (.cells (encK x.1.k) 63)).alloc (.cells (encV x.1.v) 65)) := fun ds h0 => by
      have := st65 (W.alloc (.cells (encK x.1.k) 63)) ds h0 x.1.v
      rwa [World.size_alloc] at this
    have hbb : Below W.heap.size W ((W.alloc (.cells (encK x.1.k) 63)).alloc (.cells (encV x.1.v) 65)) := ((Below.refl _ _).alloc (Nat.le_refl _) _).alloc (by simp) _
    have hbz := hb.size
    have HH : Hid (MapB W w3.heap.size (tM (lNorm m) pre) ∧ MapB W bk (lNorm m) ∧ Blk W (w3.heap.size + 1) 103 #[.map (some bk)] ∧ Blk W (w3.heap.size + 1 + 1) 103 #[.map (some w3.heap.size)]) := ⟨hm, hk, hc, hd⟩
    clear hm hk hc hd
    unfold encS
    gi_wp2
    obtain ⟨hm, hk, hc, hd⟩ := HH.out
    exact hK _ _ (KeepsFrom.of_grownBy (grown_of_below hbb) (fun j e => by cases e)) (KeepC.of_below hbb) ⟨hm.ext hbb, hk.ext hbb, hc.ext hbb, hd.ext hbb, hb.trans (hbb.mono hbz)⟩ ⟨W.heap.size, W.heap.size + 1, by omega, (Blk.new _ _ _).alloc _, blk2 W _ 65 _, rfl⟩
  case body =>
    rintro r pre x a' W hlr ⟨rr, hrr⟩ ⟨hm, hk, hc, hd, hb⟩ ⟨g5, g6, hg6, B5, B6, rfl⟩ hlt
    have hc1 : W.cell? ⟨w3.heap.size + 1, 0, none⟩ = some (.map (some bk)) := by rw [hc.cell]; rfl
    have hlk := ldB63 (off := 0) B5 x.1.k (fun j _ => by rw [Nat.zero_add])
    have hlu := run_lookup103 W bk (lNorm m) hk x.1.k
    have HM := Lib.hid hm
    have HC := Lib.hid (show MapB W bk (lNorm m) ∧ Blk W (w3.heap.size + 1) 103 #[.map (some bk)] ∧ Blk W (w3.heap.size + 1 + 1) 103 #[.map (some w3.heap.size)] from ⟨hk, hc, hd⟩)
    have H5 := Lib.hid B5
    have H6 := Lib.hid B6
    have H6G := Lib.hid hg6
    have HLR := Lib.hid hlr
    clear hm hk hc hd B5 B6 hrr hg6 hlr
    have hbz := hb.size
    cases hlo : look (lNorm m) x.1.k with
    | none =>
      rw [lookV_none hlo] at hlu
      have HLO := Lib.hid hlo
      have hlu' : (Instr.lookup 103 (.map (some bk)) (.agg (encK x.1.k)) true).run Try.prog W = .ok (.tuple #[.agg #[.int .u64 0, .int .u8 0, .int .u8 0, .int .u8 0, .int .u8 0, .int .u8 0, .int .u8 0, .int .u8 0, .int .u8 0], .bool false]) W := hlu
      have hst65 : ∀ cs : Array Value, cs.size = 9 → (stOp 65 (.pointer (some ⟨W.heap.size, 0, none⟩)) (.agg #[.int .u64 0, .int .u8 0, .int .u8 0, .int .u8 0, .int .u8 0, .int .u8 0, .int .u8 0, .int .u8 0, .int .u8 0])).run Try.prog (W.alloc (.cells cs 65)) = .ok .skip (W.alloc (.cells (encV vl0) 65)) := fun cs h0 => st65 W cs h0 vl0
      clear hlo hlu
      gi_wp2
      have hbb : Below W.heap.size W (W.alloc (.cells (encV vl0) 65)) := (Below.refl _ _).alloc (Nat.le_refl _) _
      exact ⟨keepsFrom_alloc _ _, keepC_alloc _ _, by rw [tM_snoc, tStep_none HLO.out]; exact HM.out.ext hbb, HC.out.1.ext hbb, HC.out.2.1.ext hbb, HC.out.2.2.ext hbb, hb.trans (hbb.mono hbz)⟩
    | some u =>
      rw [lookV_some hlo] at hlu
      have HLO := Lib.hid hlo
      have hxo : Hid x.1.v.ok := x.2.2
      have huo : Hid u.ok := look_ok (lNorm_ok hom) hlo
      have hst65 : ∀ cs : Array Value, cs.size = 9 → (stOp 65 (.pointer (some ⟨W.heap.size, 0, none⟩)) (.agg (encV u))).run Try.prog (W.alloc (.cells cs 65)) = .ok .skip (W.alloc (.cells (encV u) 65)) := fun cs h0 => st65 W cs h0 u
      have hl8 : (ldOp 65 (.pointer (some ⟨g6, 0, none⟩))).run Try.prog (W.alloc (.cells (encV u) 65)) = .ok (.value (.agg (encV x.1.v))) (W.alloc (.cells (encV u) 65)) := ldB65 (H6.out.alloc _) x.1.v (fun j _ => by rw [Nat.zero_add])
      have hl9 : (ldOp 65 (.pointer (some ⟨W.heap.size, 0, none⟩))).run Try.prog (W.alloc (.cells (encV u) 65)) = .ok (.value (.agg (encV u))) (W.alloc (.cells (encV u) 65)) := ldB65 (Blk.new _ _ _) u (fun j _ => by rw [Nat.zero_add])
      clear hlo
      have hb1 : Below W.heap.size W (W.alloc (.cells (encV u) 65)) := (Below.refl _ _).alloc (Nat.le_refl _) _
      cases hov : vOver x.1.v u
      · have HO := Lib.hid hov
        clear hov
        gi_wp2_with (refine ⟨trivial, ?_⟩; gi_at_call 83; refine (CallsIn.inRound r (callsIn_wide.2 (over83 x.1.v u hxo huo _))).mono ?_; rintro e W4 ⟨rfl, hb4⟩; rw [HO.out]; have hbb := hb1.trans (hb4.mono hb1.size); have hM5 := HM.out.ext hbb; have hk6 := HC.out.1.ext hbb; have hc5 := HC.out.2.1.ext hbb; have hd5 := HC.out.2.2.ext hbb; have h55 := H5.out.ext hbb; have h65 := H6.out.ext hbb; have hup := run_mapUpdate103' W4 w3.heap.size (tM (lNorm m) pre) hM5 x.1.k x.1.v; have hc6 : W4.cell? ⟨w3.heap.size + 1 + 1, 0, none⟩ = some (.map (some w3.heap.size)) := (by rw [hd5.cell]; rfl); have hk5 := ldB63 (off := 0) h55 x.1.k (fun j _ => by rw [Nat.zero_add]); have hv5 := ldB65 (off := 0) h65 x.1.v (fun j _ => by rw [Nat.zero_add]); have HF := Lib.hid (show MapB W4 w3.heap.size (tM (lNorm m) pre) ∧ MapB W4 bk (lNorm m) ∧ Blk W4 (w3.heap.size + 1) 103 #[.map (some bk)] ∧ Blk W4 (w3.heap.size + 1 + 1) 103 #[.map (some w3.heap.size)] from ⟨hM5, hk6, hc5, hd5⟩); clear hM5 hk6 hc5 hd5 h55 h65)
        obtain ⟨f1, f2, f3, f4⟩ := HF.out
        exact ⟨(KeepsFrom.of_grownBy (grown_of_below hbb) (fun j e => by cases e)).trans (KeepsFrom.of_grownBy (mapW_grown _) (fun j e => by cases e; omega)), (KeepC.of_below hbb).trans (keepC_mapW f1 _), by rw [tM_snoc, tStep_some HLO.out, HO.out]; exact mapW_map f1.lt _, f2.mapW (by omega), mapW_blk f3 (by omega) _, mapW_blk f4 (by omega) _, below_mapW (hb.trans (hbb.mono hbz)) (by omega) _⟩
      · have HO := Lib.hid hov
        clear hov
        have HALL : Hid (∀ W4, Below (W.alloc (.cells (encV u) 65)).heap.size (W.alloc (.cells (encV u) 65)) W4 →
            (ldOp 65 (.pointer (some ⟨W.heap.size, 0, none⟩))).run Try.prog W4 = .ok (.value (.agg (encV u))) W4 ∧
            (stOp 65 (.pointer (some ⟨g6, 0, none⟩)) (.agg (encV u))).run Try.prog W4 = .ok .skip (stW W4 g6 0 (encV u)) ∧
            (Instr.mapUpdate 103 (.map (some w3.heap.size)) (.agg (encK x.1.k)) (.agg (encV u))).run Try.prog (stW W4 g6 0 (encV u)) = .ok () (mapW (stW W4 g6 0 (encV u)) w3.heap.size (mSet (tM (lNorm m) pre) x.1.k u)) ∧
            (stW W4 g6 0 (encV u)).cell? ⟨w3.heap.size + 1 + 1, 0, none⟩ = some (.map (some w3.heap.size)) ∧
            (ldOp 63 (.pointer (some ⟨g5, 0, none⟩))).run Try.prog (stW W4 g6 0 (encV u)) = .ok (.value (.agg (encK x.1.k))) (stW W4 g6 0 (encV u)) ∧
            (ldOp 65 (.pointer (some ⟨g6, 0, none⟩))).run Try.prog (stW W4 g6 0 (encV u)) = .ok (.value (.agg (encV u))) (stW W4 g6 0 (encV u)) ∧
            Hid (MapB (stW W4 g6 0 (encV u)) w3.heap.size (tM (lNorm m) pre) ∧ MapB (stW W4 g6 0 (encV u)) bk (lNorm m) ∧ Blk (stW W4 g6 0 (encV u)) (w3.heap.size + 1) 103 #[.map (some bk)] ∧ Blk (stW W4 g6 0 (encV u)) (w3.heap.size + 1 + 1) 103 #[.map (some w3.heap.size)] ∧ Blk W4 g6 65 (encV x.1.v))) := fun W4 hb4 => by
          have hbb := hb1.trans (hb4.mono hb1.size)
          have hM4 := HM.out.ext hbb
          have hk4 := HC.out.1.ext hbb
          have hc4 := HC.out.2.1.ext hbb
          have hd4 := HC.out.2.2.ext hbb
          have h54 := H5.out.ext hbb
          have h64 := H6.out.ext hbb
          have h94 := (Blk.new W 65 (encV u)).ext hb4
          have hM5 := hM4.stW (show w3.heap.size ≠ g6 from fun e => by rw [← e] at h64; unfold Blk at h64; rw [show W4.heap[w3.heap.size]? = _ from hM4] at h64; cases h64) 0 (encV u)
          have hk6 := hk4.stW (show bk ≠ g6 from fun e => by rw [← e] at h64; unfold Blk at h64; rw [show W4.heap[bk]? = _ from hk4] at h64; cases h64) 0 (encV u)
          have hc5 := hc4.stW_far (blk_ne hc4 h64 (by decide)) 0 (encV u)
          have hd5 := hd4.stW_far (blk_ne hd4 h64 (by decide)) 0 (encV u)
          have h55 := h54.stW_far (blk_ne h54 h64 (by decide)) 0 (encV u)
          have h65 := h64.stW 0 (encV u) _ (whole_ _ _ rfl)
          exact ⟨ldB65 (off := 0) h94 u (fun j _ => by rw [Nat.zero_add]), stB65 (off := 0) h64 u (by simp), run_mapUpdate103' _ _ _ hM5 _ _, by rw [hd5.cell]; rfl, ldB63 (off := 0) h55 x.1.k (fun j _ => by rw [Nat.zero_add]), ldB65 (off := 0) h65 u (fun j _ => by rw [Nat.zero_add]), hM5, hk6, hc5, hd5, h64⟩
        gi_wp2_with (refine ⟨trivial, ?_⟩; gi_at_call 83; refine (CallsIn.inRound r (callsIn_wide.2 (over83 x.1.v u hxo huo _))).mono ?_; rintro e W4 ⟨rfl, hb4⟩; rw [HO.out]; obtain ⟨hl94, hs4, hup, hc6, hk5, hv5, HF⟩ := HALL.out W4 hb4; have hbb := hb1.trans (hb4.mono hb1.size))
        obtain ⟨f1, f2, f3, f4, f5⟩ := HF.out
        have hg6 : w.heap.size ≤ g6 := H6G.out
        exact ⟨((KeepsFrom.of_grownBy (grown_of_below hbb) (fun j e => by cases e)).trans (keepsFrom_stW f5 _ _)).trans (KeepsFrom.of_grownBy (mapW_grown _) (fun j e => by cases e; omega)), ((KeepC.of_below hbb).trans (keepC_stW f5 rfl _ _)).trans (keepC_mapW f1 _), by rw [tM_snoc, tStep_some HLO.out, HO.out]; exact mapW_map f1.lt _, f2.mapW (by omega), mapW_blk f3 (by omega) _, mapW_blk f4 (by omega) _, below_mapW (below_stW (hb.trans (hbb.mono hbz)) _ _ hg6 _) (by omega) _⟩
  case done =>
    rintro D ys W hD hys ⟨hm, hk, hc, hd, hb⟩ hK
    have hc6 : W.cell? ⟨w3.heap.size + 1 + 1, 0, none⟩ = some (.map (some w3.heap.size)) := by rw [hd.cell]; rfl
    have HM := Lib.hid hm
    have HYS := Lib.hid hys
    have hyl : ys.length ≤ 500000 := by
      have := congrArg List.length hys
      rw [List.length_map] at this
      rw [this]
      exact Nat.le_trans (lNorm_len l) hl
    have htl : (tM (lNorm m) ys).length ≤ 1000000 := Nat.le_trans (tM_len (lNorm m) ys []) (by simp; omega)
    have HTO : Hid (AOk (tM (lNorm m) ys)) := tM_ok (lNorm_ok hom) ys [] (fun a h => by cases h)
    have hDl : D < W.heap.size := (Array.getElem?_eq_some_iff.1 hK).1
    have hbz := hb.size
    clear hm hk hc hd hys
    gi_wp2_with (refine ⟨trivial, ?_⟩; gi_at_call 66; refine (callsIn_wide.2 (state66 (tM (lNorm m) ys) w3.heap.size _ HM.out htl HTO.out)).mono ?_; rintro e W5 ⟨rr, l', rfl, hR5, hp5, _, hb5⟩; have hK5 := (hb5.block D hDl).trans hK)
    refine ⟨by simp, .inl ⟨_, _, rfl, run_takeDeferred hK5, ?_⟩⟩
    have hDw : w3.heap.size + 4 ≤ D := by omega
    exact ⟨_, results_tmp rfl _ _ _, rr, l', ys, rfl, hR5.2.putD D hK5, HYS.out, hp5, (hb.trans (hb5.mono hbz)).grown (grownBy_putObj' W5 D _) (Nat.le_trans hbz hb5.size) (fun k e => by cases e; omega)⟩
  case stop =>
    rintro D c' pre W _ _ h _
    exact h.elim
end Go.Proofs.Ythnhlbikfidpnaa
