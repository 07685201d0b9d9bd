/- The document's functions on names: the same values as the program's. -/
import Derived.Test.YthnhlbikfidpnaaA
import Derived.Laws.BytesArg
import Derived.Deep.QuietTactic
import Derived.BigQuiet
import Derived.Deep.RegionHeld3
namespace Go.Proofs.Ythnhlbikfidpnaa
open Go.RowKit
set_option maxHeartbeats 400000
set_option maxRecDepth 100000
def Nm.txt (n : Nm) (k : Nat) : ByteArray := strOfNums ((List.range k).map n.get)
theorem Nm.txt_size (n : Nm) (k : Nat) : (n.txt k).size = k := by simp [Nm.txt, strOfNums_size]
theorem strOfNums_append (a b : List Int) : strOfNums a ++ strOfNums b = strOfNums (a ++ b) := by
  unfold strOfNums; rw [ByteArray.mk_append_mk, List.map_append]
theorem Nm.txt_succ (n : Nm) (k : Nat) : n.txt k ++ strOfNums [n.get k] = n.txt (k + 1) := by
  unfold Nm.txt; rw [strOfNums_append, List.range_succ, List.map_append]; rfl
theorem bcB {B : Nat} {W w1 : World} (hb : Below B W w1) : (∀ b o, b < B → w1.cell? ⟨b, o, none⟩ = W.cell? ⟨b, o, none⟩) ∧ (∀ b o, b < B → w1.frozen? ⟨b, o, none⟩ = W.frozen? ⟨b, o, none⟩) :=
  ⟨fun b o h => hb.cell (p := ⟨b, o, none⟩) h, fun b o h => hb.frozen (p := ⟨b, o, none⟩) h⟩
theorem und141 : Try.prog.underlying 141 = some (.slice 5) := by kernel_rfl
theorem und9 : Try.prog.underlying 9 = some .string := by kernel_rfl
theorem txt_add (n : Nm) (k : Nat) (hk : k < 8) (W : World) : (Op.stringOp .add (n.txt k) (strOfNums [n.get k])).run Try.prog W = .ok (.string (n.txt (k + 1))) W := by
  rw [run_string_add_sum W _ _ (by rw [Nm.txt_size, strOfNums_size]; simp; omega), Nm.txt_succ]
theorem conv_one (c : Int) (W : World) : (convert 141 9 (.slice (some ⟨W.heap.size, 0, none⟩) 1 1)).run Try.prog (W.alloc (.cells #[.int .u8 c] 5)) = .ok (.string (strOfNums [c])) (W.alloc (.cells #[.int .u8 c] 5)) :=
  run_convert_bytes_arg (P := Try.prog) _ 141 5 und141 und5 W.heap.size 0 1 1 [c] rfl (fun i hi => by
    obtain rfl : i = 0 := by omega
    rw [cell_of_row _ _ _ _ _ _ (heap_alloc_new W _)]; rfl) 9 und9

theorem text105 (n : Nm) (k : Nat) (hs : Hid (n.isSize k)) (w : World) :
    Calls Try.prog 105 #[.agg (encN n)] w fun e w' => e = .returned (.string (n.txt k)) ∧ Below w.heap.size w w' := by
  go_enter Try.func105, Try.ntmps105
  go_wp2
  go_loopw [3, 4] (fun s i wr => ∃ (j : Int) (m : Nat), 0 ≤ j ∧ j ≤ k ∧ m = j ∧ i = .int .i64 j ∧ s = .string (n.txt m) ∧ Below (w.heap.size + 1) (w.alloc (.cells (encN n) 61)) wr) (fun _ i _ => 8 - (intOf i).toNat)
  case atStart => exact ⟨0, 0, by omega, by omega, rfl, rfl, rfl, Below.refl _ _⟩
  case round =>
    obtain ⟨j, m, hj0, hj, hm, rfl, rfl, hb⟩ := hrel
    have hk := hs.out.1
    have hcell : ∀ j, j < 8 → wr.cell? ⟨w.heap.size, j, none⟩ = some (.int .u8 (n.get j)) := fun j hj => ((bcB hb).1 _ _ (by omega)).trans (cellN n w j hj)
    have hbs : w.heap.size + 1 ≤ wr.heap.size := by have := hb.size; simpa using this
    obtain hlt | heq : j < k ∨ j = k := by omega
    · have hne := hs.out.2.1 j.toNat (by omega)
      have hj8 : j < 8 := by omega
      obtain rfl | rfl | rfl | rfl | rfl | rfl | rfl | rfl := (show j = 0 ∨ j = 1 ∨ j = 2 ∨ j = 3 ∨ j = 4 ∨ j = 5 ∨ j = 6 ∨ j = 7 by omega)
      · obtain rfl : m = 0 := by omega
        have hd : (n.c0 == 0) = false := by simpa [Nm.get] using hne
        have hc0 : wr.cell? ⟨w.heap.size, 0, none⟩ = some (.int .u8 n.c0) := hcell 0 (by omega)
        have hcv := conv_one n.c0 wr
        have hadd : ∀ W, (Op.stringOp .add (n.txt 0) (strOfNums [n.c0])).run Try.prog W = .ok (.string (n.txt 1)) W := fun W => txt_add n 0 (by omega) W
        have hlt' : Hid ((0 : Int) < k) := hlt
        clear hne hj0 hj hj8 hlt hcell hm
        go_wp2
        go_roundw
        case rel => exact ⟨1, 1, by omega, by have := hlt'.out; omega, rfl, rfl, rfl, hb.alloc hbs _⟩
        case measure => simp [intOf]
      · obtain rfl : m = 1 := by omega
        have hd : (n.c1 == 0) = false := by simpa [Nm.get] using hne
        have hc0 : wr.cell? ⟨w.heap.size, 1, none⟩ = some (.int .u8 n.c1) := hcell 1 (by omega)
        have hcv := conv_one n.c1 wr
        have hadd : ∀ W, (Op.stringOp .add (n.txt 1) (strOfNums [n.c1])).run Try.prog W = .ok (.string (n.txt 2)) W := fun W => txt_add n 1 (by omega) W
        have hlt' : Hid ((1 : Int) < k) := hlt
        clear hne hj0 hj hj8 hlt hcell hm
        go_wp2
        go_roundw
        case rel => exact ⟨2, 2, by omega, by have := hlt'.out; omega, rfl, rfl, rfl, hb.alloc hbs _⟩
        case measure => simp [intOf]
      · obtain rfl : m = 2 := by omega
        have hd : (n.c2 == 0) = false := by simpa [Nm.get] using hne
        have hc0 : wr.cell? ⟨w.heap.size, 2, none⟩ = some (.int .u8 n.c2) := hcell 2 (by omega)
        have hcv := conv_one n.c2 wr
        have hadd : ∀ W, (Op.stringOp .add (n.txt 2) (strOfNums [n.c2])).run Try.prog W = .ok (.string (n.txt 3)) W := fun W => txt_add n 2 (by omega) W
        have hlt' : Hid ((2 : Int) < k) := hlt
        clear hne hj0 hj hj8 hlt hcell hm
        go_wp2
        go_roundw
        case rel => exact ⟨3, 3, by omega, by have := hlt'.out; omega, rfl, rfl, rfl, hb.alloc hbs _⟩
        case measure => simp [intOf]
      · obtain rfl : m = 3 := by omega
        have hd : (n.c3 == 0) = false := by simpa [Nm.get] using hne
        have hc0 : wr.cell? ⟨w.heap.size, 3, none⟩ = some (.int .u8 n.c3) := hcell 3 (by omega)
        have hcv := conv_one n.c3 wr
        have hadd : ∀ W, (Op.stringOp .add (n.txt 3) (strOfNums [n.c3])).run Try.prog W = .ok (.string (n.txt 4)) W := fun W => txt_add n 3 (by omega) W
        have hlt' : Hid ((3 : Int) < k) := hlt
        clear hne hj0 hj hj8 hlt hcell hm
        go_wp2
        go_roundw
        case rel => exact ⟨4, 4, by omega, by have := hlt'.out; omega, rfl, rfl, rfl, hb.alloc hbs _⟩
        case measure => simp [intOf]
      · obtain rfl : m = 4 := by omega
        have hd : (n.c4 == 0) = false := by simpa [Nm.get] using hne
        have hc0 : wr.cell? ⟨w.heap.size, 4, none⟩ = some (.int .u8 n.c4) := hcell 4 (by omega)
        have hcv := conv_one n.c4 wr
        have hadd : ∀ W, (Op.stringOp .add (n.txt 4) (strOfNums [n.c4])).run Try.prog W = .ok (.string (n.txt 5)) W := fun W => txt_add n 4 (by omega) W
        have hlt' : Hid ((4 : Int) < k) := hlt
        clear hne hj0 hj hj8 hlt hcell hm
        go_wp2
        go_roundw
        case rel => exact ⟨5, 5, by omega, by have := hlt'.out; omega, rfl, rfl, rfl, hb.alloc hbs _⟩
        case measure => simp [intOf]
      · obtain rfl : m = 5 := by omega
        have hd : (n.c5 == 0) = false := by simpa [Nm.get] using hne
        have hc0 : wr.cell? ⟨w.heap.size, 5, none⟩ = some (.int .u8 n.c5) := hcell 5 (by omega)
        have hcv := conv_one n.c5 wr
        have hadd : ∀ W, (Op.stringOp .add (n.txt 5) (strOfNums [n.c5])).run Try.prog W = .ok (.string (n.txt 6)) W := fun W => txt_add n 5 (by omega) W
        have hlt' : Hid ((5 : Int) < k) := hlt
        clear hne hj0 hj hj8 hlt hcell hm
        go_wp2
        go_roundw
        case rel => exact ⟨6, 6, by omega, by have := hlt'.out; omega, rfl, rfl, rfl, hb.alloc hbs _⟩
        case measure => simp [intOf]
      · obtain rfl : m = 6 := by omega
        have hd : (n.c6 == 0) = false := by simpa [Nm.get] using hne
        have hc0 : wr.cell? ⟨w.heap.size, 6, none⟩ = some (.int .u8 n.c6) := hcell 6 (by omega)
        have hcv := conv_one n.c6 wr
        have hadd : ∀ W, (Op.stringOp .add (n.txt 6) (strOfNums [n.c6])).run Try.prog W = .ok (.string (n.txt 7)) W := fun W => txt_add n 6 (by omega) W
        have hlt' : Hid ((6 : Int) < k) := hlt
        clear hne hj0 hj hj8 hlt hcell hm
        go_wp2
        go_roundw
        case rel => exact ⟨7, 7, by omega, by have := hlt'.out; omega, rfl, rfl, rfl, hb.alloc hbs _⟩
        case measure => simp [intOf]
      · obtain rfl : m = 7 := by omega
        have hd : (n.c7 == 0) = false := by simpa [Nm.get] using hne
        have hc0 : wr.cell? ⟨w.heap.size, 7, none⟩ = some (.int .u8 n.c7) := hcell 7 (by omega)
        have hcv := conv_one n.c7 wr
        have hadd : ∀ W, (Op.stringOp .add (n.txt 7) (strOfNums [n.c7])).run Try.prog W = .ok (.string (n.txt 8)) W := fun W => txt_add n 7 (by omega) W
        have hlt' : Hid ((7 : Int) < k) := hlt
        clear hne hj0 hj hj8 hlt hcell hm
        go_wp2
        go_roundw
        case rel => exact ⟨8, 8, by omega, by have := hlt'.out; omega, rfl, rfl, rfl, hb.alloc hbs _⟩
        case measure => simp [intOf]
    · have hfin : Hid (Below w.heap.size w wr) := ((Below.refl _ _).alloc (Nat.le_refl _) _).trans (hb.mono (Nat.le_succ _))
      obtain rfl : m = k := by omega
      obtain rfl | hk8 : j = 8 ∨ j < 8 := by omega
      · clear hj hk heq hj0 hcell hm
        go_wp2
        go_ret
        exact ⟨rfl, hfin.out⟩
      · have h0 := hs.out.2.2 (by omega)
        obtain rfl | rfl | rfl | rfl | rfl | rfl | rfl | rfl := (show j = 0 ∨ j = 1 ∨ j = 2 ∨ j = 3 ∨ j = 4 ∨ j = 5 ∨ j = 6 ∨ j = 7 by omega)
        · obtain rfl : m = 0 := by omega
          have hd : (n.c0 == 0) = true := by simpa [Nm.get] using h0
          have hc0 : wr.cell? ⟨w.heap.size, 0, none⟩ = some (.int .u8 n.c0) := hcell 0 (by omega)
          clear h0 hj0 hj hk8 hk heq hcell hm
          go_wp2
          go_ret
          exact ⟨rfl, hfin.out⟩
        · obtain rfl : m = 1 := by omega
          have hd : (n.c1 == 0) = true := by simpa [Nm.get] using h0
          have hc0 : wr.cell? ⟨w.heap.size, 1, none⟩ = some (.int .u8 n.c1) := hcell 1 (by omega)
          clear h0 hj0 hj hk8 hk heq hcell hm
          go_wp2
          go_ret
          exact ⟨rfl, hfin.out⟩
        · obtain rfl : m = 2 := by omega
          have hd : (n.c2 == 0) = true := by simpa [Nm.get] using h0
          have hc0 : wr.cell? ⟨w.heap.size, 2, none⟩ = some (.int .u8 n.c2) := hcell 2 (by omega)
          clear h0 hj0 hj hk8 hk heq hcell hm
          go_wp2
          go_ret
          exact ⟨rfl, hfin.out⟩
        · obtain rfl : m = 3 := by omega
          have hd : (n.c3 == 0) = true := by simpa [Nm.get] using h0
          have hc0 : wr.cell? ⟨w.heap.size, 3, none⟩ = some (.int .u8 n.c3) := hcell 3 (by omega)
          clear h0 hj0 hj hk8 hk heq hcell hm
          go_wp2
          go_ret
          exact ⟨rfl, hfin.out⟩
        · obtain rfl : m = 4 := by omega
          have hd : (n.c4 == 0) = true := by simpa [Nm.get] using h0
          have hc0 : wr.cell? ⟨w.heap.size, 4, none⟩ = some (.int .u8 n.c4) := hcell 4 (by omega)
          clear h0 hj0 hj hk8 hk heq hcell hm
          go_wp2
          go_ret
          exact ⟨rfl, hfin.out⟩
        · obtain rfl : m = 5 := by omega
          have hd : (n.c5 == 0) = true := by simpa [Nm.get] using h0
          have hc0 : wr.cell? ⟨w.heap.size, 5, none⟩ = some (.int .u8 n.c5) := hcell 5 (by omega)
          clear h0 hj0 hj hk8 hk heq hcell hm
          go_wp2
          go_ret
          exact ⟨rfl, hfin.out⟩
        · obtain rfl : m = 6 := by omega
          have hd : (n.c6 == 0) = true := by simpa [Nm.get] using h0
          have hc0 : wr.cell? ⟨w.heap.size, 6, none⟩ = some (.int .u8 n.c6) := hcell 6 (by omega)
          clear h0 hj0 hj hk8 hk heq hcell hm
          go_wp2
          go_ret
          exact ⟨rfl, hfin.out⟩
        · obtain rfl : m = 7 := by omega
          have hd : (n.c7 == 0) = true := by simpa [Nm.get] using h0
          have hc0 : wr.cell? ⟨w.heap.size, 7, none⟩ = some (.int .u8 n.c7) := hcell 7 (by omega)
          clear h0 hj0 hj hk8 hk heq hcell hm
          go_wp2
          go_ret
          exact ⟨rfl, hfin.out⟩

end Go.Proofs.Ythnhlbikfidpnaa
