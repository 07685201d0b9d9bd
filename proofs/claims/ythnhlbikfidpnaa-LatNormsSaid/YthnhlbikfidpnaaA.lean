/- Names, keys, values and atoms as Lean data, and the contracts of the small functions on names. -/
import Derived.WalkKit
import Derived.Outline
import Derived.Lib.Hide
import Derived.ChangeKeysEq
import Derived.Test.YthnhlbikfidpnaaProg
namespace Go.Proofs.Ythnhlbikfidpnaa
open Go.RowKit
set_option maxRecDepth 100000
structure Nm where
  (c0 c1 c2 c3 c4 c5 c6 c7 : Int)
  deriving DecidableEq
abbrev encN (n : Nm) : Array Value := #[.int .u8 n.c0, .int .u8 n.c1, .int .u8 n.c2, .int .u8 n.c3, .int .u8 n.c4, .int .u8 n.c5, .int .u8 n.c6, .int .u8 n.c7]
structure Ky where
  (sort cart : Int) (item : Nm) (rep seq : Int)
  deriving DecidableEq
abbrev encK (k : Ky) : Array Value := #[.int .u8 k.sort, .int .u16 k.cart, .int .u8 k.item.c0, .int .u8 k.item.c1, .int .u8 k.item.c2, .int .u8 k.item.c3, .int .u8 k.item.c4, .int .u8 k.item.c5, .int .u8 k.item.c6, .int .u8 k.item.c7, .int .u8 k.rep, .int .u32 k.seq]
structure Vl where
  (n : Int) (text : Nm)
  deriving DecidableEq
abbrev encV (v : Vl) : Array Value := #[.int .u64 v.n, .int .u8 v.text.c0, .int .u8 v.text.c1, .int .u8 v.text.c2, .int .u8 v.text.c3, .int .u8 v.text.c4, .int .u8 v.text.c5, .int .u8 v.text.c6, .int .u8 v.text.c7]
structure Am where
  (k : Ky) (v : Vl)
  deriving DecidableEq
abbrev encA (a : Am) : Array Value := #[.int .u8 a.k.sort, .int .u16 a.k.cart, .int .u8 a.k.item.c0, .int .u8 a.k.item.c1, .int .u8 a.k.item.c2, .int .u8 a.k.item.c3, .int .u8 a.k.item.c4, .int .u8 a.k.item.c5, .int .u8 a.k.item.c6, .int .u8 a.k.item.c7, .int .u8 a.k.rep, .int .u32 a.k.seq,
  .int .u64 a.v.n, .int .u8 a.v.text.c0, .int .u8 a.v.text.c1, .int .u8 a.v.text.c2, .int .u8 a.v.text.c3, .int .u8 a.v.text.c4, .int .u8 a.v.text.c5, .int .u8 a.v.text.c6, .int .u8 a.v.text.c7]
abbrev nm0 : Nm := ⟨0, 0, 0, 0, 0, 0, 0, 0⟩

section
variable {P : Program} {w : World} {d e n : Nat} {xs ys : Array Value} {is : List Nat} {i : Nat} {va vb : Value} {r s : Bool} {f : Field} {fs : List Field}
theorem eqi_cons (ha : (part e xs (i * n)).run P w = .ok va w) (hb : (part e ys (i * n)).run P w = .ok vb w) (he : (Op.equalIn d e va vb).run P w = .ok r w)
    (hr : (Op.eqItems d e n xs ys is).run P w = .ok s w) : (Op.eqItems d e n xs ys (i :: is)).run P w = .ok (r && s) w := by
  simp only [Op.eqItems, Sem.run_bind, ha, hb, he, Result.andThen_ok]
  cases r
  · rfl
  · simpa using hr
theorem eqi_nil : (Op.eqItems d e n xs ys []).run P w = .ok true w := rfl
theorem eqf_cons (hn : (f.name == "_") = false) (ha : (part f.type xs f.offset).run P w = .ok va w) (hb : (part f.type ys f.offset).run P w = .ok vb w) (he : (Op.equalIn d f.type va vb).run P w = .ok r w)
    (hr : (Op.eqFields d xs ys fs).run P w = .ok s w) : (Op.eqFields d xs ys (f :: fs)).run P w = .ok (r && s) w := by
  have hn' : f.name ≠ "_" := by simpa using hn
  simp only [Op.eqFields, Sem.run_bind, ha, hb, he, Result.andThen_ok, hn', ne_eq, not_false_eq_true, if_true]
  cases r
  · rfl
  · simpa using hr
theorem eqf_nil : (Op.eqFields d xs ys []).run P w = .ok true w := rfl
end
theorem info5 : Try.prog.info? 5 = some (Try.prog.types[5]!) := by kernel_rfl
theorem und5 : Try.prog.underlying 5 = some (.int .u8) := by kernel_rfl
theorem und22 : Try.prog.underlying 22 = some (.int .u32) := by kernel_rfl
theorem und27 : Try.prog.underlying 27 = some (.int .u64) := by kernel_rfl
theorem und59 : Try.prog.underlying 59 = some (.int .u16) := by kernel_rfl
theorem part5_0 (a0 a1 a2 a3 a4 a5 a6 a7 : Value) (w : World) : (part 5 #[a0, a1, a2, a3, a4, a5, a6, a7] (0 * Try.prog.cellsOf 5)).run Try.prog w = .ok a0 w := by kernel_rfl
theorem part5_1 (a0 a1 a2 a3 a4 a5 a6 a7 : Value) (w : World) : (part 5 #[a0, a1, a2, a3, a4, a5, a6, a7] (1 * Try.prog.cellsOf 5)).run Try.prog w = .ok a1 w := by kernel_rfl
theorem part5_2 (a0 a1 a2 a3 a4 a5 a6 a7 : Value) (w : World) : (part 5 #[a0, a1, a2, a3, a4, a5, a6, a7] (2 * Try.prog.cellsOf 5)).run Try.prog w = .ok a2 w := by kernel_rfl
theorem part5_3 (a0 a1 a2 a3 a4 a5 a6 a7 : Value) (w : World) : (part 5 #[a0, a1, a2, a3, a4, a5, a6, a7] (3 * Try.prog.cellsOf 5)).run Try.prog w = .ok a3 w := by kernel_rfl
theorem part5_4 (a0 a1 a2 a3 a4 a5 a6 a7 : Value) (w : World) : (part 5 #[a0, a1, a2, a3, a4, a5, a6, a7] (4 * Try.prog.cellsOf 5)).run Try.prog w = .ok a4 w := by kernel_rfl
theorem part5_5 (a0 a1 a2 a3 a4 a5 a6 a7 : Value) (w : World) : (part 5 #[a0, a1, a2, a3, a4, a5, a6, a7] (5 * Try.prog.cellsOf 5)).run Try.prog w = .ok a5 w := by kernel_rfl
theorem part5_6 (a0 a1 a2 a3 a4 a5 a6 a7 : Value) (w : World) : (part 5 #[a0, a1, a2, a3, a4, a5, a6, a7] (6 * Try.prog.cellsOf 5)).run Try.prog w = .ok a6 w := by kernel_rfl
theorem part5_7 (a0 a1 a2 a3 a4 a5 a6 a7 : Value) (w : World) : (part 5 #[a0, a1, a2, a3, a4, a5, a6, a7] (7 * Try.prog.cellsOf 5)).run Try.prog w = .ok a7 w := by kernel_rfl

theorem equalIn61 (d : Nat) (a b : Nm) (w : World) : (Op.equalIn (d + 2) 61 (.agg (encN a)) (.agg (encN b))).run Try.prog w = .ok (decide (a = b)) w := by
  rw [run_equalIn_array w (d + 1) (n := 8) (e := 5) _ _ (by kernel_rfl) info5]
  have h := (eqi_cons (part5_0 _ _ _ _ _ _ _ _ w) (part5_0 _ _ _ _ _ _ _ _ w) (run_equalIn_int w d 5 .u8 .u8 a.c0 b.c0 und5) (eqi_cons (part5_1 _ _ _ _ _ _ _ _ w) (part5_1 _ _ _ _ _ _ _ _ w) (run_equalIn_int w d 5 .u8 .u8 a.c1 b.c1 und5) (eqi_cons (part5_2 _ _ _ _ _ _ _ _ w) (part5_2 _ _ _ _ _ _ _ _ w) (run_equalIn_int w d 5 .u8 .u8 a.c2 b.c2 und5) (eqi_cons (part5_3 _ _ _ _ _ _ _ _ w) (part5_3 _ _ _ _ _ _ _ _ w) (run_equalIn_int w d 5 .u8 .u8 a.c3 b.c3 und5) (eqi_cons (part5_4 _ _ _ _ _ _ _ _ w) (part5_4 _ _ _ _ _ _ _ _ w) (run_equalIn_int w d 5 .u8 .u8 a.c4 b.c4 und5) (eqi_cons (part5_5 _ _ _ _ _ _ _ _ w) (part5_5 _ _ _ _ _ _ _ _ w) (run_equalIn_int w d 5 .u8 .u8 a.c5 b.c5 und5) (eqi_cons (part5_6 _ _ _ _ _ _ _ _ w) (part5_6 _ _ _ _ _ _ _ _ w) (run_equalIn_int w d 5 .u8 .u8 a.c6 b.c6 und5) (eqi_cons (part5_7 _ _ _ _ _ _ _ _ w) (part5_7 _ _ _ _ _ _ _ _ w) (run_equalIn_int w d 5 .u8 .u8 a.c7 b.c7 und5) (eqi_nil)))))))) : (Op.eqItems (d + 1) 5 (Try.prog.cellsOf 5) (encN a) (encN b) [0, 1, 2, 3, 4, 5, 6, 7]).run Try.prog w = _)
  rw [show List.range 8 = [0, 1, 2, 3, 4, 5, 6, 7] from rfl, h]
  refine congrArg (fun b => Result.ok b w) ?_
  rw [Bool.eq_iff_iff]
  obtain ⟨⟩ := a
  obtain ⟨⟩ := b
  simp
theorem part63_0 (x0 x1 x2 x3 x4 x5 x6 x7 x8 x9 x10 x11 : Value) (w : World) : (part (Try.prog.fieldsOf 63)[0]!.type #[x0, x1, x2, x3, x4, x5, x6, x7, x8, x9, x10, x11] (Try.prog.fieldsOf 63)[0]!.offset).run Try.prog w = .ok x0 w := by kernel_rfl
theorem part63_1 (x0 x1 x2 x3 x4 x5 x6 x7 x8 x9 x10 x11 : Value) (w : World) : (part (Try.prog.fieldsOf 63)[1]!.type #[x0, x1, x2, x3, x4, x5, x6, x7, x8, x9, x10, x11] (Try.prog.fieldsOf 63)[1]!.offset).run Try.prog w = .ok x1 w := by kernel_rfl
theorem part63_2 (x0 x1 x2 x3 x4 x5 x6 x7 x8 x9 x10 x11 : Value) (w : World) : (part (Try.prog.fieldsOf 63)[2]!.type #[x0, x1, x2, x3, x4, x5, x6, x7, x8, x9, x10, x11] (Try.prog.fieldsOf 63)[2]!.offset).run Try.prog w = .ok (.agg #[x2, x3, x4, x5, x6, x7, x8, x9]) w := by kernel_rfl
theorem part63_3 (x0 x1 x2 x3 x4 x5 x6 x7 x8 x9 x10 x11 : Value) (w : World) : (part (Try.prog.fieldsOf 63)[3]!.type #[x0, x1, x2, x3, x4, x5, x6, x7, x8, x9, x10, x11] (Try.prog.fieldsOf 63)[3]!.offset).run Try.prog w = .ok x10 w := by kernel_rfl
theorem part63_4 (x0 x1 x2 x3 x4 x5 x6 x7 x8 x9 x10 x11 : Value) (w : World) : (part (Try.prog.fieldsOf 63)[4]!.type #[x0, x1, x2, x3, x4, x5, x6, x7, x8, x9, x10, x11] (Try.prog.fieldsOf 63)[4]!.offset).run Try.prog w = .ok x11 w := by kernel_rfl
theorem equalIn63 (d : Nat) (a b : Ky) (w : World) : (Op.equalIn (d + 3) 63 (.agg (encK a)) (.agg (encK b))).run Try.prog w = .ok (decide (a = b)) w := by
  rw [run_equalIn_struct w (d + 2) 63 _ _ (by kernel_rfl) (by kernel_rfl)]
  have h := (eqf_cons (by kernel_rfl) (part63_0 _ _ _ _ _ _ _ _ _ _ _ _ w) (part63_0 _ _ _ _ _ _ _ _ _ _ _ _ w) (run_equalIn_int w (d + 1) 5 .u8 .u8 a.sort b.sort und5) (eqf_cons (by kernel_rfl) (part63_1 _ _ _ _ _ _ _ _ _ _ _ _ w) (part63_1 _ _ _ _ _ _ _ _ _ _ _ _ w) (run_equalIn_int w (d + 1) 59 .u16 .u16 a.cart b.cart und59) (eqf_cons (va := .agg (encN a.item)) (vb := .agg (encN b.item)) (by kernel_rfl) (part63_2 _ _ _ _ _ _ _ _ _ _ _ _ w) (part63_2 _ _ _ _ _ _ _ _ _ _ _ _ w) (equalIn61 (d + 0) a.item b.item w) (eqf_cons (by kernel_rfl) (part63_3 _ _ _ _ _ _ _ _ _ _ _ _ w) (part63_3 _ _ _ _ _ _ _ _ _ _ _ _ w) (run_equalIn_int w (d + 1) 5 .u8 .u8 a.rep b.rep und5) (eqf_cons (by kernel_rfl) (part63_4 _ _ _ _ _ _ _ _ _ _ _ _ w) (part63_4 _ _ _ _ _ _ _ _ _ _ _ _ w) (run_equalIn_int w (d + 1) 22 .u32 .u32 a.seq b.seq und22) (eqf_nil))))) : (Op.eqFields (d + 2) (encK a) (encK b) [(Try.prog.fieldsOf 63)[0]!, (Try.prog.fieldsOf 63)[1]!, (Try.prog.fieldsOf 63)[2]!, (Try.prog.fieldsOf 63)[3]!, (Try.prog.fieldsOf 63)[4]!]).run Try.prog w = _)
  rw [show (Try.prog.fieldsOf 63).toList = [(Try.prog.fieldsOf 63)[0]!, (Try.prog.fieldsOf 63)[1]!, (Try.prog.fieldsOf 63)[2]!, (Try.prog.fieldsOf 63)[3]!, (Try.prog.fieldsOf 63)[4]!] by kernel_rfl, h]
  refine congrArg (fun b => Result.ok b w) ?_
  rw [Bool.eq_iff_iff]
  obtain ⟨_, _, ⟨⟩, _, _⟩ := a
  obtain ⟨_, _, ⟨⟩, _, _⟩ := b
  simp
theorem part65_0 (x0 x1 x2 x3 x4 x5 x6 x7 x8 : Value) (w : World) : (part (Try.prog.fieldsOf 65)[0]!.type #[x0, x1, x2, x3, x4, x5, x6, x7, x8] (Try.prog.fieldsOf 65)[0]!.offset).run Try.prog w = .ok x0 w := by kernel_rfl
theorem part65_1 (x0 x1 x2 x3 x4 x5 x6 x7 x8 : Value) (w : World) : (part (Try.prog.fieldsOf 65)[1]!.type #[x0, x1, x2, x3, x4, x5, x6, x7, x8] (Try.prog.fieldsOf 65)[1]!.offset).run Try.prog w = .ok (.agg #[x1, x2, x3, x4, x5, x6, x7, x8]) w := by kernel_rfl
theorem equalIn65 (d : Nat) (a b : Vl) (w : World) : (Op.equalIn (d + 3) 65 (.agg (encV a)) (.agg (encV b))).run Try.prog w = .ok (decide (a = b)) w := by
  rw [run_equalIn_struct w (d + 2) 65 _ _ (by kernel_rfl) (by kernel_rfl)]
  have h := (eqf_cons (by kernel_rfl) (part65_0 _ _ _ _ _ _ _ _ _ w) (part65_0 _ _ _ _ _ _ _ _ _ w) (run_equalIn_int w (d + 1) 27 .u64 .u64 a.n b.n und27) (eqf_cons (va := .agg (encN a.text)) (vb := .agg (encN b.text)) (by kernel_rfl) (part65_1 _ _ _ _ _ _ _ _ _ w) (part65_1 _ _ _ _ _ _ _ _ _ w) (equalIn61 (d + 0) a.text b.text w) (eqf_nil)) : (Op.eqFields (d + 2) (encV a) (encV b) [(Try.prog.fieldsOf 65)[0]!, (Try.prog.fieldsOf 65)[1]!]).run Try.prog w = _)
  rw [show (Try.prog.fieldsOf 65).toList = [(Try.prog.fieldsOf 65)[0]!, (Try.prog.fieldsOf 65)[1]!] by kernel_rfl, h]
  refine congrArg (fun b => Result.ok b w) ?_
  rw [Bool.eq_iff_iff]
  obtain ⟨_, ⟨⟩⟩ := a
  obtain ⟨_, ⟨⟩⟩ := b
  simp
theorem part67_0 (x0 x1 x2 x3 x4 x5 x6 x7 x8 x9 x10 x11 x12 x13 x14 x15 x16 x17 x18 x19 x20 : Value) (w : World) : (part (Try.prog.fieldsOf 67)[0]!.type #[x0, x1, x2, x3, x4, x5, x6, x7, x8, x9, x10, x11, x12, x13, x14, x15, x16, x17, x18, x19, x20] (Try.prog.fieldsOf 67)[0]!.offset).run Try.prog w = .ok (.agg #[x0, x1, x2, x3, x4, x5, x6, x7, x8, x9, x10, x11]) w := by kernel_rfl
theorem part67_1 (x0 x1 x2 x3 x4 x5 x6 x7 x8 x9 x10 x11 x12 x13 x14 x15 x16 x17 x18 x19 x20 : Value) (w : World) : (part (Try.prog.fieldsOf 67)[1]!.type #[x0, x1, x2, x3, x4, x5, x6, x7, x8, x9, x10, x11, x12, x13, x14, x15, x16, x17, x18, x19, x20] (Try.prog.fieldsOf 67)[1]!.offset).run Try.prog w = .ok (.agg #[x12, x13, x14, x15, x16, x17, x18, x19, x20]) w := by kernel_rfl
theorem equalIn67 (d : Nat) (a b : Am) (w : World) : (Op.equalIn (d + 4) 67 (.agg (encA a)) (.agg (encA b))).run Try.prog w = .ok (decide (a = b)) w := by
  rw [run_equalIn_struct w (d + 3) 67 _ _ (by kernel_rfl) (by kernel_rfl)]
  have h := (eqf_cons (va := .agg (encK a.k)) (vb := .agg (encK b.k)) (by kernel_rfl) (part67_0 _ _ _ _ _ _ _ _ _ _ _ _ _ _ _ _ _ _ _ _ _ w) (part67_0 _ _ _ _ _ _ _ _ _ _ _ _ _ _ _ _ _ _ _ _ _ w) (equalIn63 (d + 0) a.k b.k w) (eqf_cons (va := .agg (encV a.v)) (vb := .agg (encV b.v)) (by kernel_rfl) (part67_1 _ _ _ _ _ _ _ _ _ _ _ _ _ _ _ _ _ _ _ _ _ w) (part67_1 _ _ _ _ _ _ _ _ _ _ _ _ _ _ _ _ _ _ _ _ _ w) (equalIn65 (d + 0) a.v b.v w) (eqf_nil)) : (Op.eqFields (d + 3) (encA a) (encA b) [(Try.prog.fieldsOf 67)[0]!, (Try.prog.fieldsOf 67)[1]!]).run Try.prog w = _)
  rw [show (Try.prog.fieldsOf 67).toList = [(Try.prog.fieldsOf 67)[0]!, (Try.prog.fieldsOf 67)[1]!] by kernel_rfl, h]
  refine congrArg (fun b => Result.ok b w) ?_
  rw [Bool.eq_iff_iff]
  obtain ⟨_, _⟩ := a
  obtain ⟨_, _⟩ := b
  simp

theorem build61 (w : World) : (Instr.build 61 #[]).run Try.prog w = .ok (.agg (encN nm0)) w := by kernel_rfl
def Nm.ok (n : Nm) : Prop := (0 ≤ n.c0 ∧ n.c0 ≤ 255) ∧ (0 ≤ n.c1 ∧ n.c1 ≤ 255) ∧ (0 ≤ n.c2 ∧ n.c2 ≤ 255) ∧ (0 ≤ n.c3 ∧ n.c3 ≤ 255) ∧ (0 ≤ n.c4 ∧ n.c4 ≤ 255) ∧ (0 ≤ n.c5 ∧ n.c5 ≤ 255) ∧ (0 ≤ n.c6 ∧ n.c6 ≤ 255) ∧ (0 ≤ n.c7 ∧ n.c7 ≤ 255)

def Nm.get (n : Nm) : Nat → Int
  | 0 => n.c0 | 1 => n.c1 | 2 => n.c2 | 3 => n.c3 | 4 => n.c4 | 5 => n.c5 | 6 => n.c6 | _ => n.c7

def Nm.pre (n : Nm) : Nat → Int
  | 0 => 0
  | k + 1 => n.pre k * 256 + n.get k
def Nm.num (n : Nm) : Int := n.pre 8

def isLetter (c : Int) : Bool := decide (97 ≤ c) && decide (c ≤ 122)
def isOther (c : Int) : Bool := isLetter c || (decide (48 ≤ c) && decide (c ≤ 57)) || c == 45
def isZero (c : Int) : Bool := c == 0

/-- The number of bytes ahead of the first zero. -/
def Nm.isSize (n : Nm) (k : Nat) : Prop := k ≤ 8 ∧ (∀ j, j < k → n.get j ≠ 0) ∧ (k < 8 → n.get k = 0)
def Nm.sizeFrom (n : Nm) : Nat → Nat → Nat
  | 0, k => k
  | m + 1, k => if n.get k = 0 then k else n.sizeFrom m (k + 1)
def Nm.size (n : Nm) : Nat := n.sizeFrom 8 0
theorem Nm.sizeFrom_is (n : Nm) : ∀ (m k : Nat), k + m = 8 → (∀ j, j < k → n.get j ≠ 0) → n.isSize (n.sizeFrom m k)
  | 0, k, h, hk => ⟨by simp [Nm.sizeFrom]; omega, by simpa [Nm.sizeFrom] using hk, by simp [Nm.sizeFrom]; omega⟩
  | m + 1, k, h, hk => by
    unfold Nm.sizeFrom
    split
    · rename_i h0; exact ⟨by omega, hk, fun _ => h0⟩
    · rename_i h0
      refine Nm.sizeFrom_is n m (k + 1) (by omega) fun j hj => ?_
      by_cases e : j = k
      · subst e; exact h0
      · exact hk j (by omega)
theorem Nm.size_is (n : Nm) : n.isSize n.size := Nm.sizeFrom_is n 8 0 rfl (fun j hj => absurd hj (by omega))

def allB (p : Nat → Bool) (n : Nat) : Bool := (List.range n).all p
theorem allB_true {p : Nat → Bool} {n : Nat} : allB p n = true ↔ ∀ j, j < n → p j = true := by simp [allB]
theorem allB_false {p : Nat → Bool} {n : Nat} (j : Nat) (hj : j < n) (h : p j = false) : allB p n = false := by
  rw [Bool.eq_false_iff]; intro h1; rw [allB_true] at h1; have := h1 j hj; simp [h] at this
def Nm.right (n : Nm) : Bool := isLetter n.c0 && (List.range 8).all fun j => if j < n.size then isOther (n.get j) else isZero (n.get j)

theorem idx61_0 (a0 a1 a2 a3 a4 a5 a6 a7 : Value) (w : World) : (Instr.index 61 (.agg #[a0,a1,a2,a3,a4,a5,a6,a7]) (.int .i64 0)).run Try.prog w = .ok a0 w := by kernel_rfl
theorem idx61_1 (a0 a1 a2 a3 a4 a5 a6 a7 : Value) (w : World) : (Instr.index 61 (.agg #[a0,a1,a2,a3,a4,a5,a6,a7]) (.int .i64 1)).run Try.prog w = .ok a1 w := by kernel_rfl
theorem idx61_2 (a0 a1 a2 a3 a4 a5 a6 a7 : Value) (w : World) : (Instr.index 61 (.agg #[a0,a1,a2,a3,a4,a5,a6,a7]) (.int .i64 2)).run Try.prog w = .ok a2 w := by kernel_rfl
theorem idx61_3 (a0 a1 a2 a3 a4 a5 a6 a7 : Value) (w : World) : (Instr.index 61 (.agg #[a0,a1,a2,a3,a4,a5,a6,a7]) (.int .i64 3)).run Try.prog w = .ok a3 w := by kernel_rfl
theorem idx61_4 (a0 a1 a2 a3 a4 a5 a6 a7 : Value) (w : World) : (Instr.index 61 (.agg #[a0,a1,a2,a3,a4,a5,a6,a7]) (.int .i64 4)).run Try.prog w = .ok a4 w := by kernel_rfl
theorem idx61_5 (a0 a1 a2 a3 a4 a5 a6 a7 : Value) (w : World) : (Instr.index 61 (.agg #[a0,a1,a2,a3,a4,a5,a6,a7]) (.int .i64 5)).run Try.prog w = .ok a5 w := by kernel_rfl
theorem idx61_6 (a0 a1 a2 a3 a4 a5 a6 a7 : Value) (w : World) : (Instr.index 61 (.agg #[a0,a1,a2,a3,a4,a5,a6,a7]) (.int .i64 6)).run Try.prog w = .ok a6 w := by kernel_rfl
theorem idx61_7 (a0 a1 a2 a3 a4 a5 a6 a7 : Value) (w : World) : (Instr.index 61 (.agg #[a0,a1,a2,a3,a4,a5,a6,a7]) (.int .i64 7)).run Try.prog w = .ok a7 w := by kernel_rfl

theorem bcell {W w1 : World} (hb : Below W.heap.size W w1) : (∀ b o, b < W.heap.size → w1.cell? ⟨b, o, none⟩ = W.cell? ⟨b, o, none⟩) ∧ (∀ b o, b < W.heap.size → w1.frozen? ⟨b, o, none⟩ = W.frozen? ⟨b, o, none⟩) :=
  ⟨fun b o h => hb.cell (p := ⟨b, o, none⟩) h, fun b o h => hb.frozen (p := ⟨b, o, none⟩) h⟩

theorem or_join (i : Nat) (hi : i ≤ 64) (A c : Int) (hA : 0 ≤ A) (hA2 : A < 18446744073709551616) (hm : A % 2 ^ i = 0) (hc : 0 ≤ c) (hc2 : c < 2 ^ i) :
    bits BinOp.or IntKind.u64 A c = A + c := by
  obtain ⟨a, rfl⟩ := Int.eq_ofNat_of_zero_le hA
  obtain ⟨b, rfl⟩ := Int.eq_ofNat_of_zero_le hc
  have ha0 : a % 2 ^ i = 0 := by exact_mod_cast hm
  have hb0 : b < 2 ^ i := by exact_mod_cast hc2
  have hb : b < 18446744073709551616 := Nat.lt_of_lt_of_le hb0 (Nat.pow_le_pow_right (by omega) hi)
  rw [u64_or_nat a b (by omega) hb, nat_join i a b ha0 hb0]; rfl

/-- 'x << 8 | c' of a number and a byte. -/
theorem or_low (x c : Int) (hx : 0 ≤ x) (hx2 : x < 72057594037927936) (hc : 0 ≤ c) (hc2 : c ≤ 255) :
    bits BinOp.or IntKind.u64 (IntKind.u64.wrap (x * 256)) (IntKind.u64.wrap c) = x * 256 + c := by
  have h1 : IntKind.u64.wrap (x * 256) = x * 256 := by rw [IntKind.wrap_u64]; omega
  have h2 : IntKind.u64.wrap c = c := by rw [IntKind.wrap_u64]; omega
  rw [h1, h2]
  exact or_join 8 (by omega) _ _ (by omega) (by omega) (by omega) hc (by omega)

theorem mul_low (x c : Int) (hx : 0 ≤ x) (hx2 : x < 72057594037927936) (hc : 0 ≤ c) (hc2 : c ≤ 255) :
    IntKind.u64.wrap (IntKind.u64.wrap (256 * x) + IntKind.u64.wrap c) = x * 256 + c := by
  simp only [IntKind.wrap_u64]; omega

theorem Nm.get_ok {n : Nm} (h : n.ok) (k : Nat) : 0 ≤ n.get k ∧ n.get k ≤ 255 := by
  obtain ⟨h0, h1, h2, h3, h4, h5, h6, h7⟩ := h
  unfold Nm.get
  split <;> assumption
theorem Nm.pre_ok {n : Nm} (h : n.ok) : ∀ k, 0 ≤ n.pre k ∧ n.pre k < 256 ^ k
  | 0 => by simp [Nm.pre]
  | k + 1 => by
    have h1 := Nm.pre_ok h k
    have h2 := Nm.get_ok h k
    simp only [Nm.pre, Int.pow_succ]
    omega

set_option maxHeartbeats 400000
theorem letter100 (c : Int) (w : World) : Calls Try.prog 100 #[.int .u8 c] w fun e w' => e = .returned (.bool (isLetter c)) ∧ w = w' := by
  by_cases h1 : 97 ≤ c
  all_goals
    go_enter Try.func100, Try.ntmps100
    go_wp2
    go_ret
    simp [isLetter]
    omega

theorem letter120 (c : Int) (w : World) : Calls Try.prog 120 #[.int .u8 c] w fun e w' => e = .returned (.bool (isLetter c)) ∧ w = w' := by
  by_cases h1 : 97 ≤ c
  all_goals
    go_enter Try.func120, Try.ntmps120
    go_wp2
    go_ret
    simp [isLetter]
    omega

theorem zero103 (c : Int) (w : World) : Calls Try.prog 103 #[.int .u8 c] w fun e w' => e = .returned (.bool (isZero c)) ∧ w = w' := by
  go_enter Try.func103, Try.ntmps103
  go_wp2
  go_ret
  simp [isZero]

theorem other102 (c : Int) (w : World) : Calls Try.prog 102 #[.int .u8 c] w fun e w' => e = .returned (.bool (isOther c)) ∧ w = w' := by
  go_enter Try.func102, Try.ntmps102
  go_wp2_with (go_at_call 100; refine (letter100 _ _).mono ?_; rintro e w' ⟨rfl, rfl⟩)
  all_goals go_ret
  all_goals first | (simp_all [isOther]; done) | (simp_all [isOther]; omega)

theorem other121 (c : Int) (w : World) : Calls Try.prog 121 #[.int .u8 c] w fun e w' => e = .returned (.bool (isOther c)) ∧ w = w' := by
  go_enter Try.func121, Try.ntmps121
  go_wp2_with (go_at_call 120; refine (letter120 _ _).mono ?_; rintro e w' ⟨rfl, rfl⟩)
  all_goals go_ret
  all_goals first | (simp_all [isOther]; done) | (simp_all [isOther]; omega)

theorem size99 (n : Nm) (k : Nat) (hs : Hid (n.isSize k)) (w : World) :
    Calls Try.prog 99 #[.agg (encN n)] w fun e w' => e = .returned (.int .i64 k) ∧ Below w.heap.size w w' := by
  go_enter Try.func99, Try.ntmps99
  go_wp2
  go_loop [6] (fun i => ∃ j : Int, 0 ≤ j ∧ j ≤ k ∧ i = .int .i64 j) (fun i => 8 - (intOf i).toNat)
  case atStart => exact ⟨0, by omega, by omega, rfl⟩
  case round =>
    obtain ⟨j, hj0, hj, rfl⟩ := hrel
    have hk := hs.out.1
    obtain hlt | heq : j < k ∨ j = k := by omega
    · have hne := hs.out.2.1 j.toNat (by omega)
      have hj8 : j < 8 := by omega
      obtain rfl | rfl | rfl | rfl | rfl | rfl | rfl | rfl := (show j = 0 ∨ j = 1 ∨ j = 2 ∨ j = 3 ∨ j = 4 ∨ j = 5 ∨ j = 6 ∨ j = 7 by omega)
      · have i0 := idx61_0
        have hd : (n.c0 == 0) = false := by simpa [Nm.get] using hne
        have hlt' : Hid ((0 : Int) < k) := hlt
        clear hne hj0 hj hlt hj8
        go_wp2
        go_round
        case rel => exact ⟨1, by omega, by have := hlt'.out; omega, rfl⟩
        case measure => simp [intOf]
      · have i0 := idx61_1
        have hd : (n.c1 == 0) = false := by simpa [Nm.get] using hne
        have hlt' : Hid ((1 : Int) < k) := hlt
        clear hne hj0 hj hlt hj8
        go_wp2
        go_round
        case rel => exact ⟨2, by omega, by have := hlt'.out; omega, rfl⟩
        case measure => simp [intOf]
      · have i0 := idx61_2
        have hd : (n.c2 == 0) = false := by simpa [Nm.get] using hne
        have hlt' : Hid ((2 : Int) < k) := hlt
        clear hne hj0 hj hlt hj8
        go_wp2
        go_round
        case rel => exact ⟨3, by omega, by have := hlt'.out; omega, rfl⟩
        case measure => simp [intOf]
      · have i0 := idx61_3
        have hd : (n.c3 == 0) = false := by simpa [Nm.get] using hne
        have hlt' : Hid ((3 : Int) < k) := hlt
        clear hne hj0 hj hlt hj8
        go_wp2
        go_round
        case rel => exact ⟨4, by omega, by have := hlt'.out; omega, rfl⟩
        case measure => simp [intOf]
      · have i0 := idx61_4
        have hd : (n.c4 == 0) = false := by simpa [Nm.get] using hne
        have hlt' : Hid ((4 : Int) < k) := hlt
        clear hne hj0 hj hlt hj8
        go_wp2
        go_round
        case rel => exact ⟨5, by omega, by have := hlt'.out; omega, rfl⟩
        case measure => simp [intOf]
      · have i0 := idx61_5
        have hd : (n.c5 == 0) = false := by simpa [Nm.get] using hne
        have hlt' : Hid ((5 : Int) < k) := hlt
        clear hne hj0 hj hlt hj8
        go_wp2
        go_round
        case rel => exact ⟨6, by omega, by have := hlt'.out; omega, rfl⟩
        case measure => simp [intOf]
      · have i0 := idx61_6
        have hd : (n.c6 == 0) = false := by simpa [Nm.get] using hne
        have hlt' : Hid ((6 : Int) < k) := hlt
        clear hne hj0 hj hlt hj8
        go_wp2
        go_round
        case rel => exact ⟨7, by omega, by have := hlt'.out; omega, rfl⟩
        case measure => simp [intOf]
      · have i0 := idx61_7
        have hd : (n.c7 == 0) = false := by simpa [Nm.get] using hne
        have hlt' : Hid ((7 : Int) < k) := hlt
        clear hne hj0 hj hlt hj8
        go_wp2
        go_round
        case rel => exact ⟨8, by omega, by have := hlt'.out; omega, rfl⟩
        case measure => simp [intOf]
    · obtain rfl | hk8 : j = 8 ∨ j < 8 := by omega
      · have hk8 : Hid (k = 8) := (by omega : k = 8)
        clear hj hk heq hj0
        go_wp2
        go_ret
        exact ⟨by rw [hk8.out]; rfl, (Below.refl _ _).alloc (Nat.le_refl _) _⟩
      · have h0 := hs.out.2.2 (by omega)
        obtain rfl : k = j.toNat := by omega
        obtain rfl | rfl | rfl | rfl | rfl | rfl | rfl | rfl := (show j = 0 ∨ j = 1 ∨ j = 2 ∨ j = 3 ∨ j = 4 ∨ j = 5 ∨ j = 6 ∨ j = 7 by omega)
        · have i0 := idx61_0
          have hd : (n.c0 == 0) = true := by simpa [Nm.get] using h0
          clear h0 hj0 hj hk8 hk heq
          go_wp2
          go_ret
          exact ⟨rfl, (Below.refl _ _).alloc (Nat.le_refl _) _⟩
        · have i0 := idx61_1
          have hd : (n.c1 == 0) = true := by simpa [Nm.get] using h0
          clear h0 hj0 hj hk8 hk heq
          go_wp2
          go_ret
          exact ⟨rfl, (Below.refl _ _).alloc (Nat.le_refl _) _⟩
        · have i0 := idx61_2
          have hd : (n.c2 == 0) = true := by simpa [Nm.get] using h0
          clear h0 hj0 hj hk8 hk heq
          go_wp2
          go_ret
          exact ⟨rfl, (Below.refl _ _).alloc (Nat.le_refl _) _⟩
        · have i0 := idx61_3
          have hd : (n.c3 == 0) = true := by simpa [Nm.get] using h0
          clear h0 hj0 hj hk8 hk heq
          go_wp2
          go_ret
          exact ⟨rfl, (Below.refl _ _).alloc (Nat.le_refl _) _⟩
        · have i0 := idx61_4
          have hd : (n.c4 == 0) = true := by simpa [Nm.get] using h0
          clear h0 hj0 hj hk8 hk heq
          go_wp2
          go_ret
          exact ⟨rfl, (Below.refl _ _).alloc (Nat.le_refl _) _⟩
        · have i0 := idx61_5
          have hd : (n.c5 == 0) = true := by simpa [Nm.get] using h0
          clear h0 hj0 hj hk8 hk heq
          go_wp2
          go_ret
          exact ⟨rfl, (Below.refl _ _).alloc (Nat.le_refl _) _⟩
        · have i0 := idx61_6
          have hd : (n.c6 == 0) = true := by simpa [Nm.get] using h0
          clear h0 hj0 hj hk8 hk heq
          go_wp2
          go_ret
          exact ⟨rfl, (Below.refl _ _).alloc (Nat.le_refl _) _⟩
        · have i0 := idx61_7
          have hd : (n.c7 == 0) = true := by simpa [Nm.get] using h0
          clear h0 hj0 hj hk8 hk heq
          go_wp2
          go_ret
          exact ⟨rfl, (Below.refl _ _).alloc (Nat.le_refl _) _⟩


theorem num122 (n : Nm) (hn : Hid n.ok) (w : World) :
    Calls Try.prog 122 #[.agg (encN n)] w fun e w' => e = .returned (.int .u64 n.num) ∧ Below w.heap.size w w' := by
  go_enter Try.func122, Try.ntmps122
  go_wp2
  go_loop [2, 6] (fun x i => ∃ j : Int, 0 ≤ j ∧ j ≤ 8 ∧ i = .int .i64 j ∧ x = .int .u64 (n.pre j.toNat)) (fun _ i => 8 - (intOf i).toNat)
  case atStart => exact ⟨0, by omega, by omega, rfl, rfl⟩
  case round =>
    obtain ⟨j, hj0, hj, rfl, rfl⟩ := hrel
    obtain rfl | hj8 : j = 8 ∨ j < 8 := by omega
    · clear hj0 hj
      go_wp2
      go_ret
      exact ⟨rfl, (Below.refl _ _).alloc (Nat.le_refl _) _⟩
    · obtain rfl | rfl | rfl | rfl | rfl | rfl | rfl | rfl := (show j = 0 ∨ j = 1 ∨ j = 2 ∨ j = 3 ∨ j = 4 ∨ j = 5 ∨ j = 6 ∨ j = 7 by omega)
      · have i0 := idx61_0
        clear hj0 hj hj8
        go_wp2
        go_round
        case rel => exact ⟨1, by omega, by omega, rfl, by have h1 := Nm.pre_ok hn.out 0; have h2 := Nm.get_ok hn.out 0; exact congrArg _ (or_low (n.pre 0) (n.get 0) h1.1 (by omega) h2.1 h2.2)⟩
        case measure => simp [intOf]
      · have i0 := idx61_1
        clear hj0 hj hj8
        go_wp2
        go_round
        case rel => exact ⟨2, by omega, by omega, rfl, by have h1 := Nm.pre_ok hn.out 1; have h2 := Nm.get_ok hn.out 1; exact congrArg _ (or_low (n.pre 1) (n.get 1) h1.1 (by omega) h2.1 h2.2)⟩
        case measure => simp [intOf]
      · have i0 := idx61_2
        clear hj0 hj hj8
        go_wp2
        go_round
        case rel => exact ⟨3, by omega, by omega, rfl, by have h1 := Nm.pre_ok hn.out 2; have h2 := Nm.get_ok hn.out 2; exact congrArg _ (or_low (n.pre 2) (n.get 2) h1.1 (by omega) h2.1 h2.2)⟩
        case measure => simp [intOf]
      · have i0 := idx61_3
        clear hj0 hj hj8
        go_wp2
        go_round
        case rel => exact ⟨4, by omega, by omega, rfl, by have h1 := Nm.pre_ok hn.out 3; have h2 := Nm.get_ok hn.out 3; exact congrArg _ (or_low (n.pre 3) (n.get 3) h1.1 (by omega) h2.1 h2.2)⟩
        case measure => simp [intOf]
      · have i0 := idx61_4
        clear hj0 hj hj8
        go_wp2
        go_round
        case rel => exact ⟨5, by omega, by omega, rfl, by have h1 := Nm.pre_ok hn.out 4; have h2 := Nm.get_ok hn.out 4; exact congrArg _ (or_low (n.pre 4) (n.get 4) h1.1 (by omega) h2.1 h2.2)⟩
        case measure => simp [intOf]
      · have i0 := idx61_5
        clear hj0 hj hj8
        go_wp2
        go_round
        case rel => exact ⟨6, by omega, by omega, rfl, by have h1 := Nm.pre_ok hn.out 5; have h2 := Nm.get_ok hn.out 5; exact congrArg _ (or_low (n.pre 5) (n.get 5) h1.1 (by omega) h2.1 h2.2)⟩
        case measure => simp [intOf]
      · have i0 := idx61_6
        clear hj0 hj hj8
        go_wp2
        go_round
        case rel => exact ⟨7, by omega, by omega, rfl, by have h1 := Nm.pre_ok hn.out 6; have h2 := Nm.get_ok hn.out 6; exact congrArg _ (or_low (n.pre 6) (n.get 6) h1.1 (by omega) h2.1 h2.2)⟩
        case measure => simp [intOf]
      · have i0 := idx61_7
        clear hj0 hj hj8
        go_wp2
        go_round
        case rel => exact ⟨8, by omega, by omega, rfl, by have h1 := Nm.pre_ok hn.out 7; have h2 := Nm.get_ok hn.out 7; exact congrArg _ (or_low (n.pre 7) (n.get 7) h1.1 (by omega) h2.1 h2.2)⟩
        case measure => simp [intOf]

theorem num108 (n : Nm) (hn : Hid n.ok) (w : World) :
    Calls Try.prog 108 #[.agg (encN n)] w fun e w' => e = .returned (.int .u64 n.num) ∧ Below w.heap.size w w' := by
  go_enter Try.func108, Try.ntmps108
  go_wp2
  go_loop [3, 4] (fun x i => ∃ j : Int, 0 ≤ j ∧ j ≤ 8 ∧ i = .int .i64 j ∧ x = .int .u64 (n.pre j.toNat)) (fun _ i => 8 - (intOf i).toNat)
  case atStart => exact ⟨0, by omega, by omega, rfl, rfl⟩
  case round =>
    obtain ⟨j, hj0, hj, rfl, rfl⟩ := hrel
    obtain rfl | hj8 : j = 8 ∨ j < 8 := by omega
    · clear hj0 hj
      go_wp2
      go_ret
      exact ⟨rfl, (Below.refl _ _).alloc (Nat.le_refl _) _⟩
    · obtain rfl | rfl | rfl | rfl | rfl | rfl | rfl | rfl := (show j = 0 ∨ j = 1 ∨ j = 2 ∨ j = 3 ∨ j = 4 ∨ j = 5 ∨ j = 6 ∨ j = 7 by omega)
      · clear hj0 hj hj8
        go_wp2
        go_round
        case rel => exact ⟨1, by omega, by omega, rfl, by have h1 := Nm.pre_ok hn.out 0; have h2 := Nm.get_ok hn.out 0; exact congrArg _ (mul_low (n.pre 0) (n.get 0) h1.1 (by omega) h2.1 h2.2)⟩
        case measure => simp [intOf]
      · clear hj0 hj hj8
        go_wp2
        go_round
        case rel => exact ⟨2, by omega, by omega, rfl, by have h1 := Nm.pre_ok hn.out 1; have h2 := Nm.get_ok hn.out 1; exact congrArg _ (mul_low (n.pre 1) (n.get 1) h1.1 (by omega) h2.1 h2.2)⟩
        case measure => simp [intOf]
      · clear hj0 hj hj8
        go_wp2
        go_round
        case rel => exact ⟨3, by omega, by omega, rfl, by have h1 := Nm.pre_ok hn.out 2; have h2 := Nm.get_ok hn.out 2; exact congrArg _ (mul_low (n.pre 2) (n.get 2) h1.1 (by omega) h2.1 h2.2)⟩
        case measure => simp [intOf]
      · clear hj0 hj hj8
        go_wp2
        go_round
        case rel => exact ⟨4, by omega, by omega, rfl, by have h1 := Nm.pre_ok hn.out 3; have h2 := Nm.get_ok hn.out 3; exact congrArg _ (mul_low (n.pre 3) (n.get 3) h1.1 (by omega) h2.1 h2.2)⟩
        case measure => simp [intOf]
      · clear hj0 hj hj8
        go_wp2
        go_round
        case rel => exact ⟨5, by omega, by omega, rfl, by have h1 := Nm.pre_ok hn.out 4; have h2 := Nm.get_ok hn.out 4; exact congrArg _ (mul_low (n.pre 4) (n.get 4) h1.1 (by omega) h2.1 h2.2)⟩
        case measure => simp [intOf]
      · clear hj0 hj hj8
        go_wp2
        go_round
        case rel => exact ⟨6, by omega, by omega, rfl, by have h1 := Nm.pre_ok hn.out 5; have h2 := Nm.get_ok hn.out 5; exact congrArg _ (mul_low (n.pre 5) (n.get 5) h1.1 (by omega) h2.1 h2.2)⟩
        case measure => simp [intOf]
      · clear hj0 hj hj8
        go_wp2
        go_round
        case rel => exact ⟨7, by omega, by omega, rfl, by have h1 := Nm.pre_ok hn.out 6; have h2 := Nm.get_ok hn.out 6; exact congrArg _ (mul_low (n.pre 6) (n.get 6) h1.1 (by omega) h2.1 h2.2)⟩
        case measure => simp [intOf]
      · clear hj0 hj hj8
        go_wp2
        go_round
        case rel => exact ⟨8, by omega, by omega, rfl, by have h1 := Nm.pre_ok hn.out 7; have h2 := Nm.get_ok hn.out 7; exact congrArg _ (mul_low (n.pre 7) (n.get 7) h1.1 (by omega) h2.1 h2.2)⟩
        case measure => simp [intOf]

theorem all101_102 (b off len cap : Nat) (xs : Nat → Int) (w : World) (hlen : len ≤ 8)
    (hcell : ∀ j, j < len → w.cell? ⟨b, off + j, none⟩ = some (.int .u8 (xs j))) :
    Calls Try.prog 101 #[.slice (some ⟨b, off, none⟩) len cap, .func (.func 102) #[] #[]] w fun e w' => e = .returned (.bool (allB (fun j => isOther (xs j)) len)) ∧ w = w' := by
  go_enter Try.func101, Try.ntmps101
  go_wp2
  go_loop [9] (fun i => ∃ k : Nat, k ≤ len ∧ i = .int .i64 k ∧ ∀ j, j < k → isOther (xs j) = true) (fun i => len - (intOf i).toNat)
  case atStart => exact ⟨0, by omega, rfl, fun j hj => absurd hj (by omega)⟩
  case round =>
    obtain ⟨k, hk, rfl, hall⟩ := hrel
    have HA := Lib.hid hall
    clear hall
    by_cases hlt : k < len
    · have hc := hcell k hlt
      clear hcell
      cases hg : isOther (xs k)
      · have HG := Lib.hid hg
        clear hg
        go_wp2_with (go_at_call 102; (refine (other102 _ _).mono ?_; rintro e w' ⟨rfl, rfl⟩; rw [HG.out]))
        go_ret
        exact ⟨by rw [allB_false k hlt HG.out]; rfl, rfl⟩
      · have HG := Lib.hid hg
        clear hg
        go_wp2_with (go_at_call 102; (refine (other102 _ _).mono ?_; rintro e w' ⟨rfl, rfl⟩; rw [HG.out]))
        go_round
        case rel => exact ⟨k + 1, by omega, by go_num, fun j hj => by
          by_cases e : j = k
          · rw [e]; exact HG.out
          · exact HA.out j (by omega)⟩
        case measure => simp [intOf]; omega
    · obtain rfl : k = len := by omega
      clear hcell
      go_wp2
      go_ret
      exact ⟨by rw [allB_true.2 HA.out]; rfl, rfl⟩

theorem all101_103 (b off len cap : Nat) (xs : Nat → Int) (w : World) (hlen : len ≤ 8)
    (hcell : ∀ j, j < len → w.cell? ⟨b, off + j, none⟩ = some (.int .u8 (xs j))) :
    Calls Try.prog 101 #[.slice (some ⟨b, off, none⟩) len cap, .func (.func 103) #[] #[]] w fun e w' => e = .returned (.bool (allB (fun j => isZero (xs j)) len)) ∧ w = w' := by
  go_enter Try.func101, Try.ntmps101
  go_wp2
  go_loop [9] (fun i => ∃ k : Nat, k ≤ len ∧ i = .int .i64 k ∧ ∀ j, j < k → isZero (xs j) = true) (fun i => len - (intOf i).toNat)
  case atStart => exact ⟨0, by omega, rfl, fun j hj => absurd hj (by omega)⟩
  case round =>
    obtain ⟨k, hk, rfl, hall⟩ := hrel
    have HA := Lib.hid hall
    clear hall
    by_cases hlt : k < len
    · have hc := hcell k hlt
      clear hcell
      cases hg : isZero (xs k)
      · have HG := Lib.hid hg
        clear hg
        go_wp2_with (go_at_call 103; (refine (zero103 _ _).mono ?_; rintro e w' ⟨rfl, rfl⟩; rw [HG.out]))
        go_ret
        exact ⟨by rw [allB_false k hlt HG.out]; rfl, rfl⟩
      · have HG := Lib.hid hg
        clear hg
        go_wp2_with (go_at_call 103; (refine (zero103 _ _).mono ?_; rintro e w' ⟨rfl, rfl⟩; rw [HG.out]))
        go_round
        case rel => exact ⟨k + 1, by omega, by go_num, fun j hj => by
          by_cases e : j = k
          · rw [e]; exact HG.out
          · exact HA.out j (by omega)⟩
        case measure => simp [intOf]; omega
    · obtain rfl : k = len := by omega
      clear hcell
      go_wp2
      go_ret
      exact ⟨by rw [allB_true.2 HA.out]; rfl, rfl⟩

theorem Nm.right_of (n : Nm) (k : Nat) (hs : n.isSize k) :
    n.right = (isLetter n.c0 && allB (fun j => isOther (n.get j)) k && allB (fun j => isZero (n.get (k + j))) (8 - k)) := by
  have hsz : n.size = k := by
    have h := n.size_is
    rcases Nat.lt_trichotomy n.size k with hl | hl | hl
    · exact absurd (h.2.2 (by have := hs.1; omega)) (hs.2.1 _ hl)
    · exact hl
    · exact absurd (hs.2.2 (by have := h.1; omega)) (h.2.1 _ hl)
  unfold Nm.right
  rw [hsz, Bool.and_assoc]
  congr 1
  rw [Bool.eq_iff_iff]
  simp only [List.all_eq_true, List.mem_range, Bool.and_eq_true, allB_true]
  have hk := hs.1
  constructor
  · intro h
    refine ⟨fun j hj => ?_, fun j hj => ?_⟩
    · have := h j (by omega); rwa [if_pos hj] at this
    · have := h (k + j) (by omega); rwa [if_neg (by omega)] at this
  · rintro ⟨h1, h2⟩ j hj
    by_cases hjk : j < k
    · rw [if_pos hjk]; exact h1 j hjk
    · rw [if_neg hjk]
      have := h2 (j - k) (by omega)
      rwa [show k + (j - k) = j by omega] at this

theorem some74 (n : Nm) (w : World) :
    Calls Try.prog 74 #[.agg (encN n)] w fun e w' => e = .returned (.bool (decide (n ≠ nm0))) ∧ Below w.heap.size w w' := by
  have he : ∀ W, (Op.equalIn 10000 61 (.agg #[.int .u8 n.c0, .int .u8 n.c1, .int .u8 n.c2, .int .u8 n.c3, .int .u8 n.c4, .int .u8 n.c5, .int .u8 n.c6, .int .u8 n.c7]) (.agg #[.int .u8 0, .int .u8 0, .int .u8 0, .int .u8 0, .int .u8 0, .int .u8 0, .int .u8 0, .int .u8 0])).run Try.prog W = .ok (decide (n = nm0)) W := fun W => equalIn61 9998 n nm0 W
  have h0 := build61
  go_enter Try.func74, Try.ntmps74
  go_wp2
  go_ret
  exact ⟨by simp, (Below.refl _ _).alloc (Nat.le_refl _) _⟩

theorem size99i (n : Nm) (k : Nat) (hs : n.isSize k) (i : Int) (hi : i = k) (w : World) :
    Calls Try.prog 99 #[.agg (encN n)] w fun e w' => e = .returned (.int .i64 i) ∧ Below w.heap.size w w' := by
  subst hi; exact size99 n k hs w

theorem cellN (n : Nm) (w : World) (j : Nat) (hj : j < 8) : (w.alloc (.cells (encN n) 61)).cell? ⟨w.heap.size, j, none⟩ = some (.int .u8 (n.get j)) := by
  rw [cell_of_row _ _ _ _ _ _ (heap_alloc_new w _)]
  obtain rfl | rfl | rfl | rfl | rfl | rfl | rfl | rfl := (show j = 0 ∨ j = 1 ∨ j = 2 ∨ j = 3 ∨ j = 4 ∨ j = 5 ∨ j = 6 ∨ j = 7 by omega)
  all_goals rfl

theorem right75 (n : Nm) (w : World) :
    Calls Try.prog 75 #[.agg (encN n)] w fun e w' => e = .returned (.bool n.right) ∧ Below w.heap.size w w' := by
  have hs := n.size_is
  rw [n.right_of _ hs]
  generalize n.size = k at *
  cases hl : isLetter n.c0
  · have HS := Lib.hid hs
    have HL := Lib.hid hl
    clear hs hl
    go_enter Try.func75, Try.ntmps75
    go_wp2_with fail
    refine (size99 n k HS.out _).mono ?_
    rintro e w1 ⟨rfl, hb⟩
    obtain ⟨hc, hf⟩ := bcell hb
    have hz : w.heap.size < w1.heap.size := by have := hb.size; simp at this; omega
    go_wp2_with fail
    refine (letter100 _ _).mono ?_
    rintro e w' ⟨rfl, rfl⟩
    rw [HL.out]
    go_wp2
    go_ret
    exact ⟨by simp, ((Below.refl _ _).alloc (Nat.le_refl _) _).trans (hb.mono (by simp))⟩
  · have HS := Lib.hid hs
    have HL := Lib.hid hl
    obtain rfl | rfl | rfl | rfl | rfl | rfl | rfl | rfl | rfl := (show k = 0 ∨ k = 1 ∨ k = 2 ∨ k = 3 ∨ k = 4 ∨ k = 5 ∨ k = 6 ∨ k = 7 ∨ k = 8 by have := hs.1; omega)
    all_goals clear hs hl
    · go_enter Try.func75, Try.ntmps75
      go_wp2_with fail
      refine (size99i n 0 HS.out 0 rfl _).mono ?_
      rintro e w1 ⟨rfl, hb⟩
      obtain ⟨hc, hf⟩ := bcell hb
      have hz : w.heap.size < w1.heap.size := by have := hb.size; simp at this; omega
      go_wp2_with fail
      refine (letter100 _ _).mono ?_
      rintro e w' ⟨rfl, rfl⟩
      rw [HL.out]
      go_wp2_with fail
      refine (all101_102 w.heap.size 0 0 8 n.get _ (by omega) (fun j hj => by rw [hc _ _ (by simp), Nat.zero_add]; exact cellN n w j (by omega))).mono ?_
      rintro e w' ⟨rfl, rfl⟩
      cases hd : allB (fun j => isOther (n.get j)) 0
      · have HD := Lib.hid hd
        clear hd
        go_wp2
        go_ret
        exact ⟨by simp [HD.out], ((Below.refl _ _).alloc (Nat.le_refl _) _).trans (hb.mono (by simp))⟩
      · have HD := Lib.hid hd
        clear hd
        go_wp2_with fail
        refine (all101_103 w.heap.size 0 8 8 (fun j => n.get (0 + j)) _ (by omega) (fun j hj => by rw [hc _ _ (by simp)]; exact cellN n w (0 + j) (by omega))).mono ?_
        rintro e w' ⟨rfl, rfl⟩
        go_wp2
        go_ret
        exact ⟨by first | (simp [HD.out]; done) | (simp [HD.out]; simp [allB]), ((Below.refl _ _).alloc (Nat.le_refl _) _).trans (hb.mono (by simp))⟩
    · go_enter Try.func75, Try.ntmps75
      go_wp2_with fail
      refine (size99i n 1 HS.out 1 rfl _).mono ?_
      rintro e w1 ⟨rfl, hb⟩
      obtain ⟨hc, hf⟩ := bcell hb
      have hz : w.heap.size < w1.heap.size := by have := hb.size; simp at this; omega
      go_wp2_with fail
      refine (letter100 _ _).mono ?_
      rintro e w' ⟨rfl, rfl⟩
      rw [HL.out]
      go_wp2_with fail
      refine (all101_102 w.heap.size 0 1 8 n.get _ (by omega) (fun j hj => by rw [hc _ _ (by simp), Nat.zero_add]; exact cellN n w j (by omega))).mono ?_
      rintro e w' ⟨rfl, rfl⟩
      cases hd : allB (fun j => isOther (n.get j)) 1
      · have HD := Lib.hid hd
        clear hd
        go_wp2
        go_ret
        exact ⟨by simp [HD.out], ((Below.refl _ _).alloc (Nat.le_refl _) _).trans (hb.mono (by simp))⟩
      · have HD := Lib.hid hd
        clear hd
        go_wp2_with fail
        refine (all101_103 w.heap.size 1 7 7 (fun j => n.get (1 + j)) _ (by omega) (fun j hj => by rw [hc _ _ (by simp)]; exact cellN n w (1 + j) (by omega))).mono ?_
        rintro e w' ⟨rfl, rfl⟩
        go_wp2
        go_ret
        exact ⟨by first | (simp [HD.out]; done) | (simp [HD.out]; simp [allB]), ((Below.refl _ _).alloc (Nat.le_refl _) _).trans (hb.mono (by simp))⟩
    · go_enter Try.func75, Try.ntmps75
      go_wp2_with fail
      refine (size99i n 2 HS.out 2 rfl _).mono ?_
      rintro e w1 ⟨rfl, hb⟩
      obtain ⟨hc, hf⟩ := bcell hb
      have hz : w.heap.size < w1.heap.size := by have := hb.size; simp at this; omega
      go_wp2_with fail
      refine (letter100 _ _).mono ?_
      rintro e w' ⟨rfl, rfl⟩
      rw [HL.out]
      go_wp2_with fail
      refine (all101_102 w.heap.size 0 2 8 n.get _ (by omega) (fun j hj => by rw [hc _ _ (by simp), Nat.zero_add]; exact cellN n w j (by omega))).mono ?_
      rintro e w' ⟨rfl, rfl⟩
      cases hd : allB (fun j => isOther (n.get j)) 2
      · have HD := Lib.hid hd
        clear hd
        go_wp2
        go_ret
        exact ⟨by simp [HD.out], ((Below.refl _ _).alloc (Nat.le_refl _) _).trans (hb.mono (by simp))⟩
      · have HD := Lib.hid hd
        clear hd
        go_wp2_with fail
        refine (all101_103 w.heap.size 2 6 6 (fun j => n.get (2 + j)) _ (by omega) (fun j hj => by rw [hc _ _ (by simp)]; exact cellN n w (2 + j) (by omega))).mono ?_
        rintro e w' ⟨rfl, rfl⟩
        go_wp2
        go_ret
        exact ⟨by first | (simp [HD.out]; done) | (simp [HD.out]; simp [allB]), ((Below.refl _ _).alloc (Nat.le_refl _) _).trans (hb.mono (by simp))⟩
    · go_enter Try.func75, Try.ntmps75
      go_wp2_with fail
      refine (size99i n 3 HS.out 3 rfl _).mono ?_
      rintro e w1 ⟨rfl, hb⟩
      obtain ⟨hc, hf⟩ := bcell hb
      have hz : w.heap.size < w1.heap.size := by have := hb.size; simp at this; omega
      go_wp2_with fail
      refine (letter100 _ _).mono ?_
      rintro e w' ⟨rfl, rfl⟩
      rw [HL.out]
      go_wp2_with fail
      refine (all101_102 w.heap.size 0 3 8 n.get _ (by omega) (fun j hj => by rw [hc _ _ (by simp), Nat.zero_add]; exact cellN n w j (by omega))).mono ?_
      rintro e w' ⟨rfl, rfl⟩
      cases hd : allB (fun j => isOther (n.get j)) 3
      · have HD := Lib.hid hd
        clear hd
        go_wp2
        go_ret
        exact ⟨by simp [HD.out], ((Below.refl _ _).alloc (Nat.le_refl _) _).trans (hb.mono (by simp))⟩
      · have HD := Lib.hid hd
        clear hd
        go_wp2_with fail
        refine (all101_103 w.heap.size 3 5 5 (fun j => n.get (3 + j)) _ (by omega) (fun j hj => by rw [hc _ _ (by simp)]; exact cellN n w (3 + j) (by omega))).mono ?_
        rintro e w' ⟨rfl, rfl⟩
        go_wp2
        go_ret
        exact ⟨by first | (simp [HD.out]; done) | (simp [HD.out]; simp [allB]), ((Below.refl _ _).alloc (Nat.le_refl _) _).trans (hb.mono (by simp))⟩
    · go_enter Try.func75, Try.ntmps75
      go_wp2_with fail
      refine (size99i n 4 HS.out 4 rfl _).mono ?_
      rintro e w1 ⟨rfl, hb⟩
      obtain ⟨hc, hf⟩ := bcell hb
      have hz : w.heap.size < w1.heap.size := by have := hb.size; simp at this; omega
      go_wp2_with fail
      refine (letter100 _ _).mono ?_
      rintro e w' ⟨rfl, rfl⟩
      rw [HL.out]
      go_wp2_with fail
      refine (all101_102 w.heap.size 0 4 8 n.get _ (by omega) (fun j hj => by rw [hc _ _ (by simp), Nat.zero_add]; exact cellN n w j (by omega))).mono ?_
      rintro e w' ⟨rfl, rfl⟩
      cases hd : allB (fun j => isOther (n.get j)) 4
      · have HD := Lib.hid hd
        clear hd
        go_wp2
        go_ret
        exact ⟨by simp [HD.out], ((Below.refl _ _).alloc (Nat.le_refl _) _).trans (hb.mono (by simp))⟩
      · have HD := Lib.hid hd
        clear hd
        go_wp2_with fail
        refine (all101_103 w.heap.size 4 4 4 (fun j => n.get (4 + j)) _ (by omega) (fun j hj => by rw [hc _ _ (by simp)]; exact cellN n w (4 + j) (by omega))).mono ?_
        rintro e w' ⟨rfl, rfl⟩
        go_wp2
        go_ret
        exact ⟨by first | (simp [HD.out]; done) | (simp [HD.out]; simp [allB]), ((Below.refl _ _).alloc (Nat.le_refl _) _).trans (hb.mono (by simp))⟩
    · go_enter Try.func75, Try.ntmps75
      go_wp2_with fail
      refine (size99i n 5 HS.out 5 rfl _).mono ?_
      rintro e w1 ⟨rfl, hb⟩
      obtain ⟨hc, hf⟩ := bcell hb
      have hz : w.heap.size < w1.heap.size := by have := hb.size; simp at this; omega
      go_wp2_with fail
      refine (letter100 _ _).mono ?_
      rintro e w' ⟨rfl, rfl⟩
      rw [HL.out]
      go_wp2_with fail
      refine (all101_102 w.heap.size 0 5 8 n.get _ (by omega) (fun j hj => by rw [hc _ _ (by simp), Nat.zero_add]; exact cellN n w j (by omega))).mono ?_
      rintro e w' ⟨rfl, rfl⟩
      cases hd : allB (fun j => isOther (n.get j)) 5
      · have HD := Lib.hid hd
        clear hd
        go_wp2
        go_ret
        exact ⟨by simp [HD.out], ((Below.refl _ _).alloc (Nat.le_refl _) _).trans (hb.mono (by simp))⟩
      · have HD := Lib.hid hd
        clear hd
        go_wp2_with fail
        refine (all101_103 w.heap.size 5 3 3 (fun j => n.get (5 + j)) _ (by omega) (fun j hj => by rw [hc _ _ (by simp)]; exact cellN n w (5 + j) (by omega))).mono ?_
        rintro e w' ⟨rfl, rfl⟩
        go_wp2
        go_ret
        exact ⟨by first | (simp [HD.out]; done) | (simp [HD.out]; simp [allB]), ((Below.refl _ _).alloc (Nat.le_refl _) _).trans (hb.mono (by simp))⟩
    · go_enter Try.func75, Try.ntmps75
      go_wp2_with fail
      refine (size99i n 6 HS.out 6 rfl _).mono ?_
      rintro e w1 ⟨rfl, hb⟩
      obtain ⟨hc, hf⟩ := bcell hb
      have hz : w.heap.size < w1.heap.size := by have := hb.size; simp at this; omega
      go_wp2_with fail
      refine (letter100 _ _).mono ?_
      rintro e w' ⟨rfl, rfl⟩
      rw [HL.out]
      go_wp2_with fail
      refine (all101_102 w.heap.size 0 6 8 n.get _ (by omega) (fun j hj => by rw [hc _ _ (by simp), Nat.zero_add]; exact cellN n w j (by omega))).mono ?_
      rintro e w' ⟨rfl, rfl⟩
      cases hd : allB (fun j => isOther (n.get j)) 6
      · have HD := Lib.hid hd
        clear hd
        go_wp2
        go_ret
        exact ⟨by simp [HD.out], ((Below.refl _ _).alloc (Nat.le_refl _) _).trans (hb.mono (by simp))⟩
      · have HD := Lib.hid hd
        clear hd
        go_wp2_with fail
        refine (all101_103 w.heap.size 6 2 2 (fun j => n.get (6 + j)) _ (by omega) (fun j hj => by rw [hc _ _ (by simp)]; exact cellN n w (6 + j) (by omega))).mono ?_
        rintro e w' ⟨rfl, rfl⟩
        go_wp2
        go_ret
        exact ⟨by first | (simp [HD.out]; done) | (simp [HD.out]; simp [allB]), ((Below.refl _ _).alloc (Nat.le_refl _) _).trans (hb.mono (by simp))⟩
    · go_enter Try.func75, Try.ntmps75
      go_wp2_with fail
      refine (size99i n 7 HS.out 7 rfl _).mono ?_
      rintro e w1 ⟨rfl, hb⟩
      obtain ⟨hc, hf⟩ := bcell hb
      have hz : w.heap.size < w1.heap.size := by have := hb.size; simp at this; omega
      go_wp2_with fail
      refine (letter100 _ _).mono ?_
      rintro e w' ⟨rfl, rfl⟩
      rw [HL.out]
      go_wp2_with fail
      refine (all101_102 w.heap.size 0 7 8 n.get _ (by omega) (fun j hj => by rw [hc _ _ (by simp), Nat.zero_add]; exact cellN n w j (by omega))).mono ?_
      rintro e w' ⟨rfl, rfl⟩
      cases hd : allB (fun j => isOther (n.get j)) 7
      · have HD := Lib.hid hd
        clear hd
        go_wp2
        go_ret
        exact ⟨by simp [HD.out], ((Below.refl _ _).alloc (Nat.le_refl _) _).trans (hb.mono (by simp))⟩
      · have HD := Lib.hid hd
        clear hd
        go_wp2_with fail
        refine (all101_103 w.heap.size 7 1 1 (fun j => n.get (7 + j)) _ (by omega) (fun j hj => by rw [hc _ _ (by simp)]; exact cellN n w (7 + j) (by omega))).mono ?_
        rintro e w' ⟨rfl, rfl⟩
        go_wp2
        go_ret
        exact ⟨by first | (simp [HD.out]; done) | (simp [HD.out]; simp [allB]), ((Below.refl _ _).alloc (Nat.le_refl _) _).trans (hb.mono (by simp))⟩
    · go_enter Try.func75, Try.ntmps75
      go_wp2_with fail
      refine (size99i n 8 HS.out 8 rfl _).mono ?_
      rintro e w1 ⟨rfl, hb⟩
      obtain ⟨hc, hf⟩ := bcell hb
      have hz : w.heap.size < w1.heap.size := by have := hb.size; simp at this; omega
      go_wp2_with fail
      refine (letter100 _ _).mono ?_
      rintro e w' ⟨rfl, rfl⟩
      rw [HL.out]
      go_wp2_with fail
      refine (all101_102 w.heap.size 0 8 8 n.get _ (by omega) (fun j hj => by rw [hc _ _ (by simp), Nat.zero_add]; exact cellN n w j (by omega))).mono ?_
      rintro e w' ⟨rfl, rfl⟩
      cases hd : allB (fun j => isOther (n.get j)) 8
      · have HD := Lib.hid hd
        clear hd
        go_wp2
        go_ret
        exact ⟨by simp [HD.out], ((Below.refl _ _).alloc (Nat.le_refl _) _).trans (hb.mono (by simp))⟩
      · have HD := Lib.hid hd
        clear hd
        go_wp2_with fail
        refine (all101_103 w.heap.size 0 0 0 (fun j => n.get (0 + j)) _ (by omega) (fun j hj => by rw [hc _ _ (by simp)]; exact cellN n w (0 + j) (by omega))).mono ?_
        rintro e w' ⟨rfl, rfl⟩
        go_wp2
        go_ret
        exact ⟨by first | (simp [HD.out]; done) | (simp [HD.out]; simp [allB]), ((Below.refl _ _).alloc (Nat.le_refl _) _).trans (hb.mono (by simp))⟩
end Go.Proofs.Ythnhlbikfidpnaa
