/- lat.state. -/
import Derived.Test.YthnhlbikfidpnaaSb
import Derived.Maps.RangeWalk
namespace Go.Proofs.Ythnhlbikfidpnaa
open Go.RowKit
set_option maxHeartbeats 2000000
set_option maxRecDepth 100000
attribute [local go_sem ↓] exec_load67 exec_load65 exec_load63 exec_store63 exec_store65
noncomputable def pick (m : List Am) (s : List Nat) : List Am := s.map fun i => m[i]?.getD zA
theorem pick_snoc {m : List Am} {i : Nat} {a : Am} (h : m[i]? = some a) (s : List Nat) : pick m (s ++ [i]) = pick m s ++ [a] := by simp [pick, h]
theorem pick_perm {m : List Am} {s : List Nat} (h : s.Perm (List.range m.length)) : (pick m s).Perm m := by
  have := h.map fun i => m[i]?.getD zA
  refine this.trans (List.Perm.of_eq ?_)
  apply List.ext_getElem?
  intro i
  rw [List.getElem?_map]
  rcases Nat.lt_or_ge i m.length with hi | hi
  · rw [List.getElem?_range hi, List.getElem?_eq_getElem hi]; simp [hi]
  · rw [List.getElem?_eq_none (by simpa using hi), List.getElem?_eq_none hi]; rfl
def lenV : Value → Nat
  | .slice _ n _ => n
  | _ => 0
theorem own_len {w : World} {B : Nat} {v : Value} {l : List Am} (h : Own w B v l) : lenV v = l.length := by
  obtain ⟨_, ⟨rfl, h⟩ | ⟨g, cap, cur, rfl, _⟩⟩ := h
  · exact h.symm
  · rfl
theorem heap_old (W : World) (o : Obj) (k : Nat) (h : k < W.heap.size) : (W.alloc o).heap[k]? = W.heap[k]? := by
  rw [World.alloc, Array.getElem?_push, if_neg (by omega)]
/-- A row that was made since block B was the next one. -/
def NewRow (B : Nat) (w : World) (v : Value) (l : List Am) : Prop := (∃ g c cur, v = .slice (some ⟨g, 0, none⟩) l.length c ∧ B ≤ g ∧ Blk w g 67 cur) ∧ Row encA 21 w v l
theorem NewRow.mono {B C : Nat} {w : World} {v : Value} {l : List Am} (h : NewRow B w v l) (hC : C ≤ B) : NewRow C w v l := by
  obtain ⟨⟨g, c, cur, h1, h2, h4⟩, h3⟩ := h
  exact ⟨⟨g, c, cur, h1, Nat.le_trans hC h2, h4⟩, h3⟩
theorem state66 (m : List Am) (b : Nat) (w : World) (hm : MapB w b m) (hl : m.length ≤ 1000000) (hok : AOk m) :
    Calls Try.prog 66 #[.map (some b)] w fun e w' => ∃ u l', e = .returned u ∧ NewRow w.heap.size w' u l' ∧ l'.Perm m ∧ (l'.Pairwise fun a b => kLess b.k a.k = false) ∧ Below w.heap.size w w' := by
  have hbw := hm.lt
  have hlen : ∀ ty, (Builtin.len_ #[103] ty #[.map (some b)]).run Try.prog w = .ok (.int .i64 m.length) w := fun ty => by
    have := run_len_map (P := Try.prog) (w := w) 103 ty b _ _ und103 hm
    rw [this]
    simp [goInt, ents_len]
  obtain ⟨i, hi, hz, hsz, hby⟩ := info67
  obtain ⟨w1, hmk, hown1, hg1⟩ := run_make_own (P := Try.prog) (w := w) w.heap.size 54 67 i (.agg (encA zA)) 21 Try.underlying54 hi hz hsz .i64 .i64 m.length (by rw [hby]; omega) (Nat.le_trans hl (by decide)) (Nat.le_refl _)
  have hB1 : Below w.heap.size w w1 := Below.grown (Below.refl _ _) hg1 (Nat.le_refl _) (fun k e => by cases e)
  have hlt1 := (World.ownsRow.lt hown1 _ rfl).2
  have hm1 : MapB w1 b m := hm.ext hB1
  have hrg : (Instr.range 103 (.map (some b))).run Try.prog w1 = .ok (.pointer (some ⟨w1.heap.size, 0, none⟩)) (w1.alloc (.mapIter (some b) m.length #[] m.length)) := by
    unfold Instr.range
    rw [Sem.run_bind, run_underlying und103]
    simp only [Result.andThen_ok, Sem.run_bind, MapKept.run_getObj_map hm1, Sem.run_pure, run_newObj_alloc]
  have hO1 : Own w1 w.heap.size (.slice (some ⟨w.heap.size, 0, none⟩) 0 m.length) [] := hown1
  have HO1 := Lib.hid hO1
  have HM := Lib.hid hm
  have HOK := Lib.hid hok
  clear hi hz hsz hby hown1 hm hO1 hg1 hok hm1
  go_enter Try.func66, Try.ntmps66
  go_wp2_with fail
  go_loopw [3] (fun o wr => ∃ seen left : List Nat, (seen ++ left).Perm (List.range m.length) ∧ wr.heap[w1.heap.size]? = some (.mapIter (some b) m.length seen.toArray m.length) ∧ Own wr w.heap.size o (pick m seen) ∧ o.ownBlock ≠ some w1.heap.size ∧ o ≠ .slice none 0 0 ∧ w1.heap.size < wr.heap.size ∧ Below w.heap.size w wr) (fun o _ => m.length - lenV o)
  case atStart =>
    refine ⟨[], List.range m.length, List.Perm.refl _, heap_alloc_new w1 _, World.ownsRow.alloc HO1.out _, ?_, by simp, by simp, hB1.alloc (by omega) _⟩
    simp [Value.ownBlock]; omega
  case round =>
    obtain ⟨seen, left, hp, hr, how, hob, hnn, hrl, hbr⟩ := hrel
    have hwm : MapB wr b m := HM.out.below hbr hbw
    have hne : b ≠ w1.heap.size := by omega
    have HP := Lib.hid hp
    have HW := Lib.hid how
    have HR := Lib.hid hr
    have HM2 := Lib.hid hwm
    have HOB := Lib.hid hob
    have HNN := Lib.hid hnn
    clear hp how hr hwm hob hnn
    go_wp2_with (at_next; refine wpNext103 _ rfl _ rfl w1.heap.size b m seen left rfl HR.out HM2.out hne HP.out ?_ ?_)
    · intro h0
      subst h0
      have how := HW.out
      obtain ⟨g, cap, rfl⟩ : ∃ g cap, u3 = .slice (some ⟨g, 0, none⟩) (pick m seen).length cap := by
        obtain ⟨_, ⟨h, _⟩ | ⟨g, cap, cur, h, _⟩⟩ := how
        · exact absurd h HNN.out
        · exact ⟨g, cap, h⟩
      have hgb : w.heap.size ≤ g ∧ g < wr.heap.size := World.ownsRow.lt how _ rfl
      have hpp := pick_perm (s := seen) (by have := HP.out; rwa [List.append_nil] at this)
      have hpl : (pick m seen).length ≤ 2000000 := by rw [hpp.length_eq]; omega
      have HPP := Lib.hid hpp
      have hgl := hgb.1
      have hpo : Hid (AOk (pick m seen)) := fun a ha => HOK.out a (hpp.mem_iff.1 ha)
      clear hpp how hgb
      go_wp2_with (go_at_call 95; refine (sort95 (pick m seen) g cap _ w.heap.size HW.out hpl hpo.out).mono ?_; rintro e w2 ⟨rfl, l', hl1, hl2, hl3, hl4, cur, hl5⟩)
      go_ret
      have hnr : NewRow w.heap.size w2 (.slice (some ⟨g, 0, none⟩) (pick m seen).length cap) l' := ⟨⟨g, cap, cur, by rw [hl1.length_eq], hgl, hl5⟩, hl3⟩
      exact ⟨_, l', rfl, hnr, hl1.trans HPP.out, hl2, Below.grown hbr hl4 hbr.size (fun k e => by cases e; exact hgl)⟩
    · intro i x left' w2 hx hp' hen hr' hgr hsz
      have hB2 : Below w.heap.size w w2 := Below.grown hbr hgr hbr.size (fun k e => by cases e; omega)
      have HX := Lib.hid hx
      have HP2 := Lib.hid hp'
      have HR2 := Lib.hid hr'
      have HS2 := Lib.hid hsz
      have HG := Lib.hid hgr
      have hO2 : Own w2 w.heap.size u3 (pick m seen) := World.ownsRow.kept HW.out hgr (.inr HOB.out)
      have HO2 := Lib.hid hO2
      have hst63 : ∀ cs ds : Array Value, cs.size = 12 → (stOp 63 (.pointer (some ⟨w2.heap.size, 0, none⟩)) (.agg (encK x.k))).run Try.prog ((w2.alloc (.cells cs 63)).alloc (.cells ds 65)) = .ok .skip ((w2.alloc (.cells (encK x.k) 63)).alloc (.cells ds 65)) := fun cs ds h0 => st63_2 w2 cs h0 x.k _
      have hst65 : ∀ ds : Array Value, ds.size = 9 → (stOp 65 (.pointer (some ⟨w2.heap.size + 1, 0, none⟩)) (.agg (encV x.v))).run Try.prog ((w2.alloc (.cells (encK x.k) 63)).alloc (.cells ds 65)) = .ok .skip ((w2.alloc (.cells (encK x.k) 63)).alloc (.cells (encV x.v) 65)) := fun ds h0 => by
        have := st65 (w2.alloc (.cells (encK x.k) 63)) ds h0 x.v
        rwa [World.size_alloc] at this
      have hlk : (ldOp 63 (.pointer (some ⟨w2.heap.size, 0, none⟩))).run Try.prog ((w2.alloc (.cells (encK x.k) 63)).alloc (.cells (encV x.v) 65)) = .ok (.value (.agg (encK x.k))) ((w2.alloc (.cells (encK x.k) 63)).alloc (.cells (encV x.v) 65)) := ldB63 ((Blk.new w2 63 (encK x.k)).alloc _) x.k (fun j _ => by rw [Nat.zero_add])
      have hlv : (ldOp 65 (.pointer (some ⟨w2.heap.size + 1, 0, none⟩))).run Try.prog ((w2.alloc (.cells (encK x.k) 63)).alloc (.cells (encV x.v) 65)) = .ok (.value (.agg (encV x.v))) ((w2.alloc (.cells (encK x.k) 63)).alloc (.cells (encV x.v) 65)) := ldB65 (blk2 w2 _ 65 (encV x.v)) x.v (fun j _ => by rw [Nat.zero_add])
      have hll : seen.length < m.length := by have := hp'.length_eq; simp at this; omega
      have hpl : (pick m seen).length ≤ 2000000 := by unfold pick; rw [List.length_map]; omega
      have hb2 := hB2.size
      clear hx hp' hr' hsz hgr hO2
      go_wp2_with (at_builtin; refine appB rfl (.tmp 16) (.tmp 20) rfl w.heap.size _ _ rfl (World.ownsRow.alloc (World.ownsRow.alloc (World.ownsRow.alloc HO2.out _) _) _) (w2.heap.size + 1 + 1) 1 x rfl ?c1 hpl (by simp; omega) (fun v' w5 hown5 hgrow5 hnn5 hob5 => ?_))
      case c1 =>
        intro j
        have := Blk.new ((w2.alloc (.cells (encK x.k) 63)).alloc (.cells (encV x.v) 65)) 67 (encA x)
        rw [World.size_alloc, World.size_alloc] at this
        exact this.cell j
      have hgrow5' : (((w2.alloc (.cells (encK x.k) 63)).alloc (.cells (encV x.v) 65)).alloc (.cells (encA x) 67)).grownBy w5 u3.ownBlock := hgrow5
      have hob5' : v'.ownBlock = u3.ownBlock ∨ v'.ownBlock = some (((w2.alloc (.cells (encK x.k) 63)).alloc (.cells (encV x.v) 65)).alloc (.cells (encA x) 67)).heap.size := hob5
      have hsz5 : w2.heap.size + 3 ≤ w5.heap.size := by have := hgrow5'.size; simpa using this
      have hs2 := HS2.out
      have hlen0 := own_len HW.out
      have hlen5 := own_len hown5
      have hpk : (pick m seen).length = seen.length := by simp [pick]
      have hpp := HP2.out.length_eq
      refine ⟨⟨seen ++ [i], left', by rw [List.append_assoc]; exact HP2.out, ?_, by rw [pick_snoc HX.out]; exact hown5, ?_, hnn5, by omega, ?_⟩, ?_⟩
      · refine (hgrow5'.block _ (by simp; omega) (fun e => HOB.out e.symm)).trans ?_
        rw [heap_old _ _ _ (by simp; omega), heap_old _ _ _ (by simp; omega), heap_old _ _ _ (by omega)]
        exact HR2.out
      · rcases hob5' with h | h
        · rw [h]; exact HOB.out
        · rw [h]; simp; omega
      · exact Below.grown (((hB2.alloc hb2 _).alloc (by simp; omega) _).alloc (by simp; omega) _) hgrow5' (by simp; omega) (fun k e => (World.ownsRow.lt HO2.out _ e).1)
      · simp only [List.length_append, List.length_singleton, List.length_cons, List.length_range] at hlen5 hpp
        show m.length - lenV v' < m.length - lenV u3
        omega
end Go.Proofs.Ythnhlbikfidpnaa
