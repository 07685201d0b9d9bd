/-
  No cell of these rows narrows 'for every input' (looked for: loops, veiled, ifaces, maps, wideKeys, modest, calm, conditions, laid).
  DERIVED. THE GIVEN ROWS OF THIS SEAT. 7 by the template 'for every input the law returns true; each argument reads behind the call as it read before'; 0 by the template 'total and deterministic' (their statements: YthnhlbikfidpnaaTotals.lean).
  GIVEN WITH THE SEED: the statements are not yours to turn. If you find one false, say at which input.
  Laid BY PROGRAM, IN A SANDBOX (cutbox-rows.mjs): the forced cells as the released guide's own fill.sh prints them over the translation d6871eab8001c611… (all of the seat's roots in one cut). By AI agents, Wed Nov 11 2026. No macro, syntax, notation, axiom, sorry.
-/
import Derived.Test.YthnhlbikfidpnaaChecked
import GoSem.Claim
import GoSem.ClaimJoined
import GoSem.ClaimMapViews
import Derived.JoinedTies
import Derived.KernelRfl
namespace Go.Proofs.Ythnhlbikfidpnaa
/- THE CELL 'sum', in the pinned program and in every row, IS THE sha256 OF THE DUMP (.gsa) THAT YthnhlbikfidpnaaProg.lean LOADS. Nothing in Lean hashes anything: it is a label: what it is worth is what the hold of that sum in a sandbox is worth. -/
noncomputable def Try.pinned : Pinned := { name := "ythnhlbikfidpnaa", sum := "d6871eab8001c611a4426e9238c69ae4428b6ac055356e57b4726589a94ddca0", checked := Try.checked }
namespace Rows
def none {H : Type} : Left H := { results := [], args := [] }

/-- 'handcartlaw13.DotsAdds': WHATEVER THE INPUT: true; the input reads as it did. -/
def dotsAddsSpec : ChangeSpec := { name := "dotsAdds", fn := fun _ => fun
  | [d1, d2, d3] => { results := [.lit (.bool true)], args := [d1, d2, d3] }
  | _ => none }
def dotsAddsRow : OpenClaim := { program := "ythnhlbikfidpnaa", sum := "d6871eab8001c611a4426e9238c69ae4428b6ac055356e57b4726589a94ddca0", func := "handcart/handcartlaw13.DotsAdds", spec := "dotsAdds", unfollowed := true, recurses := true, plainKeys := false, apart := false }
def DotsAddsSaid : Prop := dotsAddsRow.holds Try.pinned (OpenSpec.ofChange dotsAddsSpec)

/-- ITS FALSE NEIGHBOUR: 'it returns false'. Refute it at one input. -/
def dotsAddsWrong : ChangeSpec := { name := "dotsAdds", fn := fun _ => fun
  | [d1, d2, d3] => { results := [.lit (.bool false)], args := [d1, d2, d3] }
  | _ => none }
def DotsAddsWrongFalsely : Prop := dotsAddsRow.holds Try.pinned (OpenSpec.ofChange dotsAddsWrong)

/-- 'handcartlaw13.DotsAlone': WHATEVER THE INPUT: true; the input reads as it did. -/
def dotsAloneSpec : ChangeSpec := { name := "dotsAlone", fn := fun _ => fun
  | [d1, d2, d3] => { results := [.lit (.bool true)], args := [d1, d2, d3] }
  | _ => none }
def dotsAloneRow : OpenClaim := { program := "ythnhlbikfidpnaa", sum := "d6871eab8001c611a4426e9238c69ae4428b6ac055356e57b4726589a94ddca0", func := "handcart/handcartlaw13.DotsAlone", spec := "dotsAlone", unfollowed := true, recurses := true, plainKeys := false, apart := false }
def DotsAloneSaid : Prop := dotsAloneRow.holds Try.pinned (OpenSpec.ofChange dotsAloneSpec)

/-- ITS FALSE NEIGHBOUR: 'it returns false'. Refute it at one input. -/
def dotsAloneWrong : ChangeSpec := { name := "dotsAlone", fn := fun _ => fun
  | [d1, d2, d3] => { results := [.lit (.bool false)], args := [d1, d2, d3] }
  | _ => none }
def DotsAloneWrongFalsely : Prop := dotsAloneRow.holds Try.pinned (OpenSpec.ofChange dotsAloneWrong)

/-- 'handcartlaw13.DotsJoins': WHATEVER THE INPUT: true; the input reads as it did. -/
def dotsJoinsSpec : ChangeSpec := { name := "dotsJoins", fn := fun _ => fun
  | [d1, d2] => { results := [.lit (.bool true)], args := [d1, d2] }
  | _ => none }
def dotsJoinsRow : OpenClaim := { program := "ythnhlbikfidpnaa", sum := "d6871eab8001c611a4426e9238c69ae4428b6ac055356e57b4726589a94ddca0", func := "handcart/handcartlaw13.DotsJoins", spec := "dotsJoins", unfollowed := true, recurses := true, plainKeys := false, apart := false }
def DotsJoinsSaid : Prop := dotsJoinsRow.holds Try.pinned (OpenSpec.ofChange dotsJoinsSpec)

/-- ITS FALSE NEIGHBOUR: 'it returns false'. Refute it at one input. -/
def dotsJoinsWrong : ChangeSpec := { name := "dotsJoins", fn := fun _ => fun
  | [d1, d2] => { results := [.lit (.bool false)], args := [d1, d2] }
  | _ => none }
def DotsJoinsWrongFalsely : Prop := dotsJoinsRow.holds Try.pinned (OpenSpec.ofChange dotsJoinsWrong)

/-- 'handcartlaw10.LatAll': WHATEVER THE INPUT: true; the input reads as it did. -/
def latAllSpec : ChangeSpec := { name := "latAll", fn := fun _ => fun
  | [d1, d2] => { results := [.lit (.bool true)], args := [d1, d2] }
  | _ => none }
def latAllRow : OpenClaim := { program := "ythnhlbikfidpnaa", sum := "d6871eab8001c611a4426e9238c69ae4428b6ac055356e57b4726589a94ddca0", func := "handcart/handcartlaw10.LatAll", spec := "latAll", unfollowed := true, recurses := true, plainKeys := false, apart := false }
def LatAllSaid : Prop := latAllRow.holds Try.pinned (OpenSpec.ofChange latAllSpec)

/-- ITS FALSE NEIGHBOUR: 'it returns false'. Refute it at one input. -/
def latAllWrong : ChangeSpec := { name := "latAll", fn := fun _ => fun
  | [d1, d2] => { results := [.lit (.bool false)], args := [d1, d2] }
  | _ => none }
def LatAllWrongFalsely : Prop := latAllRow.holds Try.pinned (OpenSpec.ofChange latAllWrong)

/-- 'handcartlaw10.LatNorms': WHATEVER THE INPUT: true; the input reads as it did. -/
def latNormsSpec : ChangeSpec := { name := "latNorms", fn := fun _ => fun
  | [d1, d2] => { results := [.lit (.bool true)], args := [d1, d2] }
  | _ => none }
def latNormsRow : OpenClaim := { program := "ythnhlbikfidpnaa", sum := "d6871eab8001c611a4426e9238c69ae4428b6ac055356e57b4726589a94ddca0", func := "handcart/handcartlaw10.LatNorms", spec := "latNorms", unfollowed := true, recurses := true, plainKeys := false, apart := false }
def LatNormsSaid : Prop := latNormsRow.holds Try.pinned (OpenSpec.ofChange latNormsSpec)

/-- ITS FALSE NEIGHBOUR: 'it returns false'. Refute it at one input. -/
def latNormsWrong : ChangeSpec := { name := "latNorms", fn := fun _ => fun
  | [d1, d2] => { results := [.lit (.bool false)], args := [d1, d2] }
  | _ => none }
def LatNormsWrongFalsely : Prop := latNormsRow.holds Try.pinned (OpenSpec.ofChange latNormsWrong)

/-- 'handcartlaw16.NoteLast': WHATEVER THE INPUT: true; the input reads as it did. -/
def noteLastSpec : ChangeSpec := { name := "noteLast", fn := fun _ => fun
  | [d1, d2, d3] => { results := [.lit (.bool true)], args := [d1, d2, d3] }
  | _ => none }
def noteLastRow : OpenClaim := { program := "ythnhlbikfidpnaa", sum := "d6871eab8001c611a4426e9238c69ae4428b6ac055356e57b4726589a94ddca0", func := "handcart/handcartlaw16.NoteLast", spec := "noteLast", unfollowed := true, recurses := true, plainKeys := false, apart := false }
def NoteLastSaid : Prop := noteLastRow.holds Try.pinned (OpenSpec.ofChange noteLastSpec)

/-- ITS FALSE NEIGHBOUR: 'it returns false'. Refute it at one input. -/
def noteLastWrong : ChangeSpec := { name := "noteLast", fn := fun _ => fun
  | [d1, d2, d3] => { results := [.lit (.bool false)], args := [d1, d2, d3] }
  | _ => none }
def NoteLastWrongFalsely : Prop := noteLastRow.holds Try.pinned (OpenSpec.ofChange noteLastWrong)

/-- 'handcartlaw16.NotePuts': WHATEVER THE INPUT: true; the input reads as it did. -/
def notePutsSpec : ChangeSpec := { name := "notePuts", fn := fun _ => fun
  | [d1, d2, d3] => { results := [.lit (.bool true)], args := [d1, d2, d3] }
  | _ => none }
def notePutsRow : OpenClaim := { program := "ythnhlbikfidpnaa", sum := "d6871eab8001c611a4426e9238c69ae4428b6ac055356e57b4726589a94ddca0", func := "handcart/handcartlaw16.NotePuts", spec := "notePuts", unfollowed := true, recurses := true, plainKeys := false, apart := false }
def NotePutsSaid : Prop := notePutsRow.holds Try.pinned (OpenSpec.ofChange notePutsSpec)

/-- ITS FALSE NEIGHBOUR: 'it returns false'. Refute it at one input. -/
def notePutsWrong : ChangeSpec := { name := "notePuts", fn := fun _ => fun
  | [d1, d2, d3] => { results := [.lit (.bool false)], args := [d1, d2, d3] }
  | _ => none }
def NotePutsWrongFalsely : Prop := notePutsRow.holds Try.pinned (OpenSpec.ofChange notePutsWrong)

/- THE SECOND FORM. 'bulk': how many values and letters a reading holds, each counted each time it is reached (what is shared counts as often as it is met; a slice's spare places count too). A statement '..UptoSaid' is the law's where the arguments, and the package variables that the reading takes, are together of bulk at most 1048576: NARROWER than '..Said'. Prove '..Said' where nothing that the law and all that it calls make is longer than what came in: it says more and counts as full. Else prove '..UptoSaid'. A law counts once. -/
mutual
def uptoBulk {H : Type} : DataW H → Nat
  | .lit (.string bytes) => bytes.length + 1
  | .lit _ => 1
  | .nil => 1
  | .ptr d => uptoBulk d + 1
  | .slice elems spare => uptoBulkAll elems + uptoBulkAll spare + 1
  | .agg parts => uptoBulkAll parts + 1
  | .iface _ d => uptoBulk d + 1
  | .map entries => uptoBulkEntries entries + 1
  | .held _ => 1
def uptoBulkAll {H : Type} : List (DataW H) → Nat
  | [] => 0
  | d :: r => uptoBulk d + uptoBulkAll r
def uptoBulkEntries {H : Type} : List (Lit × DataW H) → Nat
  | [] => 0
  | x :: r => uptoBulkEntry x + uptoBulkEntries r
def uptoBulkEntry {H : Type} : Lit × DataW H → Nat
  | (.string bytes, d) => bytes.length + uptoBulk d + 1
  | (_, d) => uptoBulk d + 1
 end
def uptoSmall : (H : Type) → List (DataW H) → Bool := fun _ ds => decide (uptoBulkAll ds ≤ 1048576)
def OpenSpec.upto (s : _root_.Go.ChangeSpec) : _root_.Go.OpenSpec := { _root_.Go.OpenSpec.ofChange s with cond := some uptoSmall }

/-- 'handcartlaw13.DotsAdds', WHERE WHAT IT READS IS OF BULK AT MOST 1048576: true; the input reads as it did. -/
def dotsAddsUptoRow : OpenClaim := { program := "ythnhlbikfidpnaa", sum := "d6871eab8001c611a4426e9238c69ae4428b6ac055356e57b4726589a94ddca0", func := "handcart/handcartlaw13.DotsAdds", spec := "dotsAdds", unfollowed := true, recurses := true, plainKeys := false, apart := false, narrowed := true }
def DotsAddsUptoSaid : Prop := dotsAddsUptoRow.holds Try.pinned (OpenSpec.upto dotsAddsSpec)

/-- 'handcartlaw13.DotsAlone', WHERE WHAT IT READS IS OF BULK AT MOST 1048576: true; the input reads as it did. -/
def dotsAloneUptoRow : OpenClaim := { program := "ythnhlbikfidpnaa", sum := "d6871eab8001c611a4426e9238c69ae4428b6ac055356e57b4726589a94ddca0", func := "handcart/handcartlaw13.DotsAlone", spec := "dotsAlone", unfollowed := true, recurses := true, plainKeys := false, apart := false, narrowed := true }
def DotsAloneUptoSaid : Prop := dotsAloneUptoRow.holds Try.pinned (OpenSpec.upto dotsAloneSpec)

/-- 'handcartlaw13.DotsJoins', WHERE WHAT IT READS IS OF BULK AT MOST 1048576: true; the input reads as it did. -/
def dotsJoinsUptoRow : OpenClaim := { program := "ythnhlbikfidpnaa", sum := "d6871eab8001c611a4426e9238c69ae4428b6ac055356e57b4726589a94ddca0", func := "handcart/handcartlaw13.DotsJoins", spec := "dotsJoins", unfollowed := true, recurses := true, plainKeys := false, apart := false, narrowed := true }
def DotsJoinsUptoSaid : Prop := dotsJoinsUptoRow.holds Try.pinned (OpenSpec.upto dotsJoinsSpec)

/-- 'handcartlaw10.LatAll', WHERE WHAT IT READS IS OF BULK AT MOST 1048576: true; the input reads as it did. -/
def latAllUptoRow : OpenClaim := { program := "ythnhlbikfidpnaa", sum := "d6871eab8001c611a4426e9238c69ae4428b6ac055356e57b4726589a94ddca0", func := "handcart/handcartlaw10.LatAll", spec := "latAll", unfollowed := true, recurses := true, plainKeys := false, apart := false, narrowed := true }
def LatAllUptoSaid : Prop := latAllUptoRow.holds Try.pinned (OpenSpec.upto latAllSpec)

/-- 'handcartlaw10.LatNorms', WHERE WHAT IT READS IS OF BULK AT MOST 1048576: true; the input reads as it did. -/
def latNormsUptoRow : OpenClaim := { program := "ythnhlbikfidpnaa", sum := "d6871eab8001c611a4426e9238c69ae4428b6ac055356e57b4726589a94ddca0", func := "handcart/handcartlaw10.LatNorms", spec := "latNorms", unfollowed := true, recurses := true, plainKeys := false, apart := false, narrowed := true }
def LatNormsUptoSaid : Prop := latNormsUptoRow.holds Try.pinned (OpenSpec.upto latNormsSpec)

/-- 'handcartlaw16.NoteLast', WHERE WHAT IT READS IS OF BULK AT MOST 1048576: true; the input reads as it did. -/
def noteLastUptoRow : OpenClaim := { program := "ythnhlbikfidpnaa", sum := "d6871eab8001c611a4426e9238c69ae4428b6ac055356e57b4726589a94ddca0", func := "handcart/handcartlaw16.NoteLast", spec := "noteLast", unfollowed := true, recurses := true, plainKeys := false, apart := false, narrowed := true }
def NoteLastUptoSaid : Prop := noteLastUptoRow.holds Try.pinned (OpenSpec.upto noteLastSpec)

/-- 'handcartlaw16.NotePuts', WHERE WHAT IT READS IS OF BULK AT MOST 1048576: true; the input reads as it did. -/
def notePutsUptoRow : OpenClaim := { program := "ythnhlbikfidpnaa", sum := "d6871eab8001c611a4426e9238c69ae4428b6ac055356e57b4726589a94ddca0", func := "handcart/handcartlaw16.NotePuts", spec := "notePuts", unfollowed := true, recurses := true, plainKeys := false, apart := false, narrowed := true }
def NotePutsUptoSaid : Prop := notePutsUptoRow.holds Try.pinned (OpenSpec.upto notePutsSpec)

end Rows
end Go.Proofs.Ythnhlbikfidpnaa
