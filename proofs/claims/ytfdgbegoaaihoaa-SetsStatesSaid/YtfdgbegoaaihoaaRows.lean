/-
  No cell of these rows narrows 'for every input' (looked for: loops, veiled, ifaces, maps, wideKeys, modest, calm, conditions, laid).
  DERIVED. THE GIVEN ROWS OF THIS SEAT. 7 by the template 'for every input the law returns true; each argument reads behind the call as it read before'; 0 by the template 'total and deterministic' (their statements: YtfdgbegoaaihoaaTotals.lean).
  GIVEN WITH THE SEED: the statements are not yours to turn. If you find one false, say at which input.
  Laid BY PROGRAM, IN A SANDBOX (cutbox-rows.mjs): the forced cells as the released guide's own fill.sh prints them over the translation c0e16912281e1ab0… (all of the seat's roots in one cut). By AI agents, Wed Nov 11 2026. No macro, syntax, notation, axiom, sorry.
-/
import Derived.Test.YtfdgbegoaaihoaaChecked
import GoSem.Claim
import GoSem.ClaimJoined
import GoSem.ClaimMapViews
import Derived.JoinedTies
import Derived.KernelRfl
namespace Go.Proofs.Ytfdgbegoaaihoaa
/- THE CELL 'sum', in the pinned program and in every row, IS THE sha256 OF THE DUMP (.gsa) THAT YtfdgbegoaaihoaaProg.lean LOADS. Nothing in Lean hashes anything: it is a label: what it is worth is what the hold of that sum in a sandbox is worth. -/
noncomputable def Try.pinned : Pinned := { name := "ytfdgbegoaaihoaa", sum := "c0e16912281e1ab0b388cb4b52b444b50ba1457426eaa3cfaffc955c832f3236", checked := Try.checked }
namespace Rows
def none {H : Type} : Left H := { results := [], args := [] }

/-- 'weftwaylaw12.SetsMake': WHATEVER THE INPUT: true; the input reads as it did. -/
def setsMakeSpec : ChangeSpec := { name := "setsMake", fn := fun _ => fun
  | [d1, d2] => { results := [.lit (.bool true)], args := [d1, d2] }
  | _ => none }
def setsMakeRow : OpenClaim := { program := "ytfdgbegoaaihoaa", sum := "c0e16912281e1ab0b388cb4b52b444b50ba1457426eaa3cfaffc955c832f3236", func := "weftway/weftwaylaw12.SetsMake", spec := "setsMake", recurses := true, apart := false }
def SetsMakeSaid : Prop := setsMakeRow.holds Try.pinned (OpenSpec.ofChange setsMakeSpec)

/-- ITS FALSE NEIGHBOUR: 'it returns false'. Refute it at one input. -/
def setsMakeWrong : ChangeSpec := { name := "setsMake", fn := fun _ => fun
  | [d1, d2] => { results := [.lit (.bool false)], args := [d1, d2] }
  | _ => none }
def SetsMakeWrongFalsely : Prop := setsMakeRow.holds Try.pinned (OpenSpec.ofChange setsMakeWrong)

/-- 'weftwaylaw12.SetsStates': WHATEVER THE INPUT: true; the input reads as it did. -/
def setsStatesSpec : ChangeSpec := { name := "setsStates", fn := fun _ => fun
  | [d1, d2] => { results := [.lit (.bool true)], args := [d1, d2] }
  | _ => none }
def setsStatesRow : OpenClaim := { program := "ytfdgbegoaaihoaa", sum := "c0e16912281e1ab0b388cb4b52b444b50ba1457426eaa3cfaffc955c832f3236", func := "weftway/weftwaylaw12.SetsStates", spec := "setsStates", recurses := true, apart := false }
def SetsStatesSaid : Prop := setsStatesRow.holds Try.pinned (OpenSpec.ofChange setsStatesSpec)

/-- ITS FALSE NEIGHBOUR: 'it returns false'. Refute it at one input. -/
def setsStatesWrong : ChangeSpec := { name := "setsStates", fn := fun _ => fun
  | [d1, d2] => { results := [.lit (.bool false)], args := [d1, d2] }
  | _ => none }
def SetsStatesWrongFalsely : Prop := setsStatesRow.holds Try.pinned (OpenSpec.ofChange setsStatesWrong)

/-- 'weftwaylaw12.SetsLeast': WHATEVER THE INPUT: true; the input reads as it did. -/
def setsLeastSpec : ChangeSpec := { name := "setsLeast", fn := fun _ => fun
  | [d1, d2, d3] => { results := [.lit (.bool true)], args := [d1, d2, d3] }
  | _ => none }
def setsLeastRow : OpenClaim := { program := "ytfdgbegoaaihoaa", sum := "c0e16912281e1ab0b388cb4b52b444b50ba1457426eaa3cfaffc955c832f3236", func := "weftway/weftwaylaw12.SetsLeast", spec := "setsLeast", recurses := true, apart := false }
def SetsLeastSaid : Prop := setsLeastRow.holds Try.pinned (OpenSpec.ofChange setsLeastSpec)

/-- ITS FALSE NEIGHBOUR: 'it returns false'. Refute it at one input. -/
def setsLeastWrong : ChangeSpec := { name := "setsLeast", fn := fun _ => fun
  | [d1, d2, d3] => { results := [.lit (.bool false)], args := [d1, d2, d3] }
  | _ => none }
def SetsLeastWrongFalsely : Prop := setsLeastRow.holds Try.pinned (OpenSpec.ofChange setsLeastWrong)

/-- 'weftwaylaw12.SetsOf': WHATEVER THE INPUT: true; the input reads as it did. -/
def setsOfSpec : ChangeSpec := { name := "setsOf", fn := fun _ => fun
  | [d1, d2] => { results := [.lit (.bool true)], args := [d1, d2] }
  | _ => none }
def setsOfRow : OpenClaim := { program := "ytfdgbegoaaihoaa", sum := "c0e16912281e1ab0b388cb4b52b444b50ba1457426eaa3cfaffc955c832f3236", func := "weftway/weftwaylaw12.SetsOf", spec := "setsOf", recurses := true, apart := false }
def SetsOfSaid : Prop := setsOfRow.holds Try.pinned (OpenSpec.ofChange setsOfSpec)

/-- ITS FALSE NEIGHBOUR: 'it returns false'. Refute it at one input. -/
def setsOfWrong : ChangeSpec := { name := "setsOf", fn := fun _ => fun
  | [d1, d2] => { results := [.lit (.bool false)], args := [d1, d2] }
  | _ => none }
def SetsOfWrongFalsely : Prop := setsOfRow.holds Try.pinned (OpenSpec.ofChange setsOfWrong)

/-- 'weftwaylaw12.SetsTell': WHATEVER THE INPUT: true; the input reads as it did. -/
def setsTellSpec : ChangeSpec := { name := "setsTell", fn := fun _ => fun
  | [d1, d2] => { results := [.lit (.bool true)], args := [d1, d2] }
  | _ => none }
def setsTellRow : OpenClaim := { program := "ytfdgbegoaaihoaa", sum := "c0e16912281e1ab0b388cb4b52b444b50ba1457426eaa3cfaffc955c832f3236", func := "weftway/weftwaylaw12.SetsTell", spec := "setsTell", recurses := true, apart := false }
def SetsTellSaid : Prop := setsTellRow.holds Try.pinned (OpenSpec.ofChange setsTellSpec)

/-- ITS FALSE NEIGHBOUR: 'it returns false'. Refute it at one input. -/
def setsTellWrong : ChangeSpec := { name := "setsTell", fn := fun _ => fun
  | [d1, d2] => { results := [.lit (.bool false)], args := [d1, d2] }
  | _ => none }
def SetsTellWrongFalsely : Prop := setsTellRow.holds Try.pinned (OpenSpec.ofChange setsTellWrong)

/-- 'weftwaylaw12.SetsMembers': WHATEVER THE INPUT: true; the input reads as it did. -/
def setsMembersSpec : ChangeSpec := { name := "setsMembers", fn := fun _ => fun
  | [d1, d2, d3] => { results := [.lit (.bool true)], args := [d1, d2, d3] }
  | _ => none }
def setsMembersRow : OpenClaim := { program := "ytfdgbegoaaihoaa", sum := "c0e16912281e1ab0b388cb4b52b444b50ba1457426eaa3cfaffc955c832f3236", func := "weftway/weftwaylaw12.SetsMembers", spec := "setsMembers", recurses := true, apart := false }
def SetsMembersSaid : Prop := setsMembersRow.holds Try.pinned (OpenSpec.ofChange setsMembersSpec)

/-- ITS FALSE NEIGHBOUR: 'it returns false'. Refute it at one input. -/
def setsMembersWrong : ChangeSpec := { name := "setsMembers", fn := fun _ => fun
  | [d1, d2, d3] => { results := [.lit (.bool false)], args := [d1, d2, d3] }
  | _ => none }
def SetsMembersWrongFalsely : Prop := setsMembersRow.holds Try.pinned (OpenSpec.ofChange setsMembersWrong)

/-- 'weftwaylaw12.SetsAlgebra': WHATEVER THE INPUT: true; the input reads as it did. -/
def setsAlgebraSpec : ChangeSpec := { name := "setsAlgebra", fn := fun _ => fun
  | [d1, d2, d3] => { results := [.lit (.bool true)], args := [d1, d2, d3] }
  | _ => none }
def setsAlgebraRow : OpenClaim := { program := "ytfdgbegoaaihoaa", sum := "c0e16912281e1ab0b388cb4b52b444b50ba1457426eaa3cfaffc955c832f3236", func := "weftway/weftwaylaw12.SetsAlgebra", spec := "setsAlgebra", recurses := true, apart := false }
def SetsAlgebraSaid : Prop := setsAlgebraRow.holds Try.pinned (OpenSpec.ofChange setsAlgebraSpec)

/-- ITS FALSE NEIGHBOUR: 'it returns false'. Refute it at one input. -/
def setsAlgebraWrong : ChangeSpec := { name := "setsAlgebra", fn := fun _ => fun
  | [d1, d2, d3] => { results := [.lit (.bool false)], args := [d1, d2, d3] }
  | _ => none }
def SetsAlgebraWrongFalsely : Prop := setsAlgebraRow.holds Try.pinned (OpenSpec.ofChange setsAlgebraWrong)

/- THE SECOND FORM. 'bulk': how many values and letters a reading holds, each counted each time it is reached (what is shared counts as often as it is met; a slice's spare places count too). A statement '..UptoSaid' is the law's where the arguments, and the package variables that the reading takes, are together of bulk at most 1048576: NARROWER than '..Said'. Prove '..Said' where nothing that the law and all that it calls make is longer than what came in: it says more and counts as full. Else prove '..UptoSaid'. A law counts once. -/
mutual
def uptoBulk {H : Type} : DataW H → Nat
  | .lit (.string bytes) => bytes.length + 1
  | .lit _ => 1
  | .nil => 1
  | .ptr d => uptoBulk d + 1
  | .slice elems spare => uptoBulkAll elems + uptoBulkAll spare + 1
  | .agg parts => uptoBulkAll parts + 1
  | .iface _ d => uptoBulk d + 1
  | .map entries => uptoBulkEntries entries + 1
  | .held _ => 1
def uptoBulkAll {H : Type} : List (DataW H) → Nat
  | [] => 0
  | d :: r => uptoBulk d + uptoBulkAll r
def uptoBulkEntries {H : Type} : List (Lit × DataW H) → Nat
  | [] => 0
  | x :: r => uptoBulkEntry x + uptoBulkEntries r
def uptoBulkEntry {H : Type} : Lit × DataW H → Nat
  | (.string bytes, d) => bytes.length + uptoBulk d + 1
  | (_, d) => uptoBulk d + 1
 end
def uptoSmall : (H : Type) → List (DataW H) → Bool := fun _ ds => decide (uptoBulkAll ds ≤ 1048576)
def OpenSpec.upto (s : _root_.Go.ChangeSpec) : _root_.Go.OpenSpec := { _root_.Go.OpenSpec.ofChange s with cond := some uptoSmall }

/-- 'weftwaylaw12.SetsMake', WHERE WHAT IT READS IS OF BULK AT MOST 1048576: true; the input reads as it did. -/
def setsMakeUptoRow : OpenClaim := { program := "ytfdgbegoaaihoaa", sum := "c0e16912281e1ab0b388cb4b52b444b50ba1457426eaa3cfaffc955c832f3236", func := "weftway/weftwaylaw12.SetsMake", spec := "setsMake", recurses := true, apart := false, narrowed := true }
def SetsMakeUptoSaid : Prop := setsMakeUptoRow.holds Try.pinned (OpenSpec.upto setsMakeSpec)

/-- 'weftwaylaw12.SetsStates', WHERE WHAT IT READS IS OF BULK AT MOST 1048576: true; the input reads as it did. -/
def setsStatesUptoRow : OpenClaim := { program := "ytfdgbegoaaihoaa", sum := "c0e16912281e1ab0b388cb4b52b444b50ba1457426eaa3cfaffc955c832f3236", func := "weftway/weftwaylaw12.SetsStates", spec := "setsStates", recurses := true, apart := false, narrowed := true }
def SetsStatesUptoSaid : Prop := setsStatesUptoRow.holds Try.pinned (OpenSpec.upto setsStatesSpec)

/-- 'weftwaylaw12.SetsLeast', WHERE WHAT IT READS IS OF BULK AT MOST 1048576: true; the input reads as it did. -/
def setsLeastUptoRow : OpenClaim := { program := "ytfdgbegoaaihoaa", sum := "c0e16912281e1ab0b388cb4b52b444b50ba1457426eaa3cfaffc955c832f3236", func := "weftway/weftwaylaw12.SetsLeast", spec := "setsLeast", recurses := true, apart := false, narrowed := true }
def SetsLeastUptoSaid : Prop := setsLeastUptoRow.holds Try.pinned (OpenSpec.upto setsLeastSpec)

/-- 'weftwaylaw12.SetsOf', WHERE WHAT IT READS IS OF BULK AT MOST 1048576: true; the input reads as it did. -/
def setsOfUptoRow : OpenClaim := { program := "ytfdgbegoaaihoaa", sum := "c0e16912281e1ab0b388cb4b52b444b50ba1457426eaa3cfaffc955c832f3236", func := "weftway/weftwaylaw12.SetsOf", spec := "setsOf", recurses := true, apart := false, narrowed := true }
def SetsOfUptoSaid : Prop := setsOfUptoRow.holds Try.pinned (OpenSpec.upto setsOfSpec)

/-- 'weftwaylaw12.SetsTell', WHERE WHAT IT READS IS OF BULK AT MOST 1048576: true; the input reads as it did. -/
def setsTellUptoRow : OpenClaim := { program := "ytfdgbegoaaihoaa", sum := "c0e16912281e1ab0b388cb4b52b444b50ba1457426eaa3cfaffc955c832f3236", func := "weftway/weftwaylaw12.SetsTell", spec := "setsTell", recurses := true, apart := false, narrowed := true }
def SetsTellUptoSaid : Prop := setsTellUptoRow.holds Try.pinned (OpenSpec.upto setsTellSpec)

/-- 'weftwaylaw12.SetsMembers', WHERE WHAT IT READS IS OF BULK AT MOST 1048576: true; the input reads as it did. -/
def setsMembersUptoRow : OpenClaim := { program := "ytfdgbegoaaihoaa", sum := "c0e16912281e1ab0b388cb4b52b444b50ba1457426eaa3cfaffc955c832f3236", func := "weftway/weftwaylaw12.SetsMembers", spec := "setsMembers", recurses := true, apart := false, narrowed := true }
def SetsMembersUptoSaid : Prop := setsMembersUptoRow.holds Try.pinned (OpenSpec.upto setsMembersSpec)

/-- 'weftwaylaw12.SetsAlgebra', WHERE WHAT IT READS IS OF BULK AT MOST 1048576: true; the input reads as it did. -/
def setsAlgebraUptoRow : OpenClaim := { program := "ytfdgbegoaaihoaa", sum := "c0e16912281e1ab0b388cb4b52b444b50ba1457426eaa3cfaffc955c832f3236", func := "weftway/weftwaylaw12.SetsAlgebra", spec := "setsAlgebra", recurses := true, apart := false, narrowed := true }
def SetsAlgebraUptoSaid : Prop := setsAlgebraUptoRow.holds Try.pinned (OpenSpec.upto setsAlgebraSpec)

end Rows
end Go.Proofs.Ytfdgbegoaaihoaa
