/-
  No cell of these rows narrows 'for every input' (looked for: loops, veiled, ifaces, maps, wideKeys, modest, calm, conditions, laid).
  DERIVED. THE GIVEN ROWS OF THIS SEAT. 6 by the template 'for every input the law returns true; each argument reads behind the call as it read before'; 0 by the template 'total and deterministic' (their statements: YtnhhinlhfaapcaaTotals.lean).
  GIVEN WITH THE SEED: the statements are not yours to turn. If you find one false, say at which input.
  Laid BY PROGRAM, IN A SANDBOX (cutbox-rows.mjs): the forced cells as the released guide's own fill.sh prints them over the translation 8f2f0b2c584916b6… (all of the seat's roots in one cut). By AI agents, Wed Nov 11 2026. No macro, syntax, notation, axiom, sorry.
-/
import Derived.Test.YtnhhinlhfaapcaaChecked
import GoSem.Claim
import GoSem.ClaimJoined
import GoSem.ClaimMapViews
import Derived.JoinedTies
import Derived.KernelRfl
namespace Go.Proofs.Ytnhhinlhfaapcaa
/- THE CELL 'sum', in the pinned program and in every row, IS THE sha256 OF THE DUMP (.gsa) THAT YtnhhinlhfaapcaaProg.lean LOADS. Nothing in Lean hashes anything: it is a label: what it is worth is what the hold of that sum in a sandbox is worth. -/
noncomputable def Try.pinned : Pinned := { name := "ytnhhinlhfaapcaa", sum := "8f2f0b2c584916b66c9d530c7f78fb9dbc8f857c4754979c866f6bff6b129549", checked := Try.checked }
namespace Rows
def none {H : Type} : Left H := { results := [], args := [] }

/-- 'weftwaylaw24.ThreadsWait': WHATEVER THE INPUT: true; the input reads as it did. -/
def threadsWaitSpec : ChangeSpec := { name := "threadsWait", fn := fun _ => fun
  | [d1, d2] => { results := [.lit (.bool true)], args := [d1, d2] }
  | _ => none }
def threadsWaitRow : OpenClaim := { program := "ytnhhinlhfaapcaa", sum := "8f2f0b2c584916b66c9d530c7f78fb9dbc8f857c4754979c866f6bff6b129549", func := "weftway/weftwaylaw24.ThreadsWait", spec := "threadsWait", unfollowed := true, recurses := true, apart := false }
def ThreadsWaitSaid : Prop := threadsWaitRow.holds Try.pinned (OpenSpec.ofChange threadsWaitSpec)

/-- ITS FALSE NEIGHBOUR: 'it returns false'. Refute it at one input. -/
def threadsWaitWrong : ChangeSpec := { name := "threadsWait", fn := fun _ => fun
  | [d1, d2] => { results := [.lit (.bool false)], args := [d1, d2] }
  | _ => none }
def ThreadsWaitWrongFalsely : Prop := threadsWaitRow.holds Try.pinned (OpenSpec.ofChange threadsWaitWrong)

/-- 'weftwaylaw24.ThreadsEnd': WHATEVER THE INPUT: true; the input reads as it did. -/
def threadsEndSpec : ChangeSpec := { name := "threadsEnd", fn := fun _ => fun
  | [d1, d2] => { results := [.lit (.bool true)], args := [d1, d2] }
  | _ => none }
def threadsEndRow : OpenClaim := { program := "ytnhhinlhfaapcaa", sum := "8f2f0b2c584916b66c9d530c7f78fb9dbc8f857c4754979c866f6bff6b129549", func := "weftway/weftwaylaw24.ThreadsEnd", spec := "threadsEnd", unfollowed := true, recurses := true, apart := false }
def ThreadsEndSaid : Prop := threadsEndRow.holds Try.pinned (OpenSpec.ofChange threadsEndSpec)

/-- ITS FALSE NEIGHBOUR: 'it returns false'. Refute it at one input. -/
def threadsEndWrong : ChangeSpec := { name := "threadsEnd", fn := fun _ => fun
  | [d1, d2] => { results := [.lit (.bool false)], args := [d1, d2] }
  | _ => none }
def ThreadsEndWrongFalsely : Prop := threadsEndRow.holds Try.pinned (OpenSpec.ofChange threadsEndWrong)

/-- 'weftwaylaw24.ThreadsFull': WHATEVER THE INPUT: true; the input reads as it did. -/
def threadsFullSpec : ChangeSpec := { name := "threadsFull", fn := fun _ => fun
  | [d1, d2] => { results := [.lit (.bool true)], args := [d1, d2] }
  | _ => none }
def threadsFullRow : OpenClaim := { program := "ytnhhinlhfaapcaa", sum := "8f2f0b2c584916b66c9d530c7f78fb9dbc8f857c4754979c866f6bff6b129549", func := "weftway/weftwaylaw24.ThreadsFull", spec := "threadsFull", unfollowed := true, recurses := true, apart := false }
def ThreadsFullSaid : Prop := threadsFullRow.holds Try.pinned (OpenSpec.ofChange threadsFullSpec)

/-- ITS FALSE NEIGHBOUR: 'it returns false'. Refute it at one input. -/
def threadsFullWrong : ChangeSpec := { name := "threadsFull", fn := fun _ => fun
  | [d1, d2] => { results := [.lit (.bool false)], args := [d1, d2] }
  | _ => none }
def ThreadsFullWrongFalsely : Prop := threadsFullRow.holds Try.pinned (OpenSpec.ofChange threadsFullWrong)

/-- 'weftwaylaw24.ThreadsWithin': WHATEVER THE INPUT: true; the input reads as it did. -/
def threadsWithinSpec : ChangeSpec := { name := "threadsWithin", fn := fun _ => fun
  | [d] => { results := [.lit (.bool true)], args := [d] }
  | _ => none }
def threadsWithinRow : OpenClaim := { program := "ytnhhinlhfaapcaa", sum := "8f2f0b2c584916b66c9d530c7f78fb9dbc8f857c4754979c866f6bff6b129549", func := "weftway/weftwaylaw24.ThreadsWithin", spec := "threadsWithin", unfollowed := true, recurses := true, apart := false }
def ThreadsWithinSaid : Prop := threadsWithinRow.holds Try.pinned (OpenSpec.ofChange threadsWithinSpec)

/-- ITS FALSE NEIGHBOUR: 'it returns false'. Refute it at one input. -/
def threadsWithinWrong : ChangeSpec := { name := "threadsWithin", fn := fun _ => fun
  | [d] => { results := [.lit (.bool false)], args := [d] }
  | _ => none }
def ThreadsWithinWrongFalsely : Prop := threadsWithinRow.holds Try.pinned (OpenSpec.ofChange threadsWithinWrong)

/-- 'weftwaylaw24.ThreadsPlay': WHATEVER THE INPUT: true; the input reads as it did. -/
def threadsPlaySpec : ChangeSpec := { name := "threadsPlay", fn := fun _ => fun
  | [d] => { results := [.lit (.bool true)], args := [d] }
  | _ => none }
def threadsPlayRow : OpenClaim := { program := "ytnhhinlhfaapcaa", sum := "8f2f0b2c584916b66c9d530c7f78fb9dbc8f857c4754979c866f6bff6b129549", func := "weftway/weftwaylaw24.ThreadsPlay", spec := "threadsPlay", unfollowed := true, recurses := true, apart := false }
def ThreadsPlaySaid : Prop := threadsPlayRow.holds Try.pinned (OpenSpec.ofChange threadsPlaySpec)

/-- ITS FALSE NEIGHBOUR: 'it returns false'. Refute it at one input. -/
def threadsPlayWrong : ChangeSpec := { name := "threadsPlay", fn := fun _ => fun
  | [d] => { results := [.lit (.bool false)], args := [d] }
  | _ => none }
def ThreadsPlayWrongFalsely : Prop := threadsPlayRow.holds Try.pinned (OpenSpec.ofChange threadsPlayWrong)

/-- 'weftwaylaw24.ThreadsNil': WHATEVER THE INPUT: true; the input reads as it did. -/
def threadsNilSpec : ChangeSpec := { name := "threadsNil", fn := fun _ => fun
  | [d] => { results := [.lit (.bool true)], args := [d] }
  | _ => none }
def threadsNilRow : OpenClaim := { program := "ytnhhinlhfaapcaa", sum := "8f2f0b2c584916b66c9d530c7f78fb9dbc8f857c4754979c866f6bff6b129549", func := "weftway/weftwaylaw24.ThreadsNil", spec := "threadsNil", unfollowed := true, recurses := true, apart := false }
def ThreadsNilSaid : Prop := threadsNilRow.holds Try.pinned (OpenSpec.ofChange threadsNilSpec)

/-- ITS FALSE NEIGHBOUR: 'it returns false'. Refute it at one input. -/
def threadsNilWrong : ChangeSpec := { name := "threadsNil", fn := fun _ => fun
  | [d] => { results := [.lit (.bool false)], args := [d] }
  | _ => none }
def ThreadsNilWrongFalsely : Prop := threadsNilRow.holds Try.pinned (OpenSpec.ofChange threadsNilWrong)

/- THE SECOND FORM. 'bulk': how many values and letters a reading holds, each counted each time it is reached (what is shared counts as often as it is met; a slice's spare places count too). A statement '..UptoSaid' is the law's where the arguments, and the package variables that the reading takes, are together of bulk at most 1048576: NARROWER than '..Said'. Prove '..Said' where nothing that the law and all that it calls make is longer than what came in: it says more and counts as full. Else prove '..UptoSaid'. A law counts once. -/
mutual
def uptoBulk {H : Type} : DataW H → Nat
  | .lit (.string bytes) => bytes.length + 1
  | .lit _ => 1
  | .nil => 1
  | .ptr d => uptoBulk d + 1
  | .slice elems spare => uptoBulkAll elems + uptoBulkAll spare + 1
  | .agg parts => uptoBulkAll parts + 1
  | .iface _ d => uptoBulk d + 1
  | .map entries => uptoBulkEntries entries + 1
  | .held _ => 1
def uptoBulkAll {H : Type} : List (DataW H) → Nat
  | [] => 0
  | d :: r => uptoBulk d + uptoBulkAll r
def uptoBulkEntries {H : Type} : List (Lit × DataW H) → Nat
  | [] => 0
  | x :: r => uptoBulkEntry x + uptoBulkEntries r
def uptoBulkEntry {H : Type} : Lit × DataW H → Nat
  | (.string bytes, d) => bytes.length + uptoBulk d + 1
  | (_, d) => uptoBulk d + 1
 end
def uptoSmall : (H : Type) → List (DataW H) → Bool := fun _ ds => decide (uptoBulkAll ds ≤ 1048576)
def OpenSpec.upto (s : _root_.Go.ChangeSpec) : _root_.Go.OpenSpec := { _root_.Go.OpenSpec.ofChange s with cond := some uptoSmall }

/-- 'weftwaylaw24.ThreadsWait', WHERE WHAT IT READS IS OF BULK AT MOST 1048576: true; the input reads as it did. -/
def threadsWaitUptoRow : OpenClaim := { program := "ytnhhinlhfaapcaa", sum := "8f2f0b2c584916b66c9d530c7f78fb9dbc8f857c4754979c866f6bff6b129549", func := "weftway/weftwaylaw24.ThreadsWait", spec := "threadsWait", unfollowed := true, recurses := true, apart := false, narrowed := true }
def ThreadsWaitUptoSaid : Prop := threadsWaitUptoRow.holds Try.pinned (OpenSpec.upto threadsWaitSpec)

/-- 'weftwaylaw24.ThreadsEnd', WHERE WHAT IT READS IS OF BULK AT MOST 1048576: true; the input reads as it did. -/
def threadsEndUptoRow : OpenClaim := { program := "ytnhhinlhfaapcaa", sum := "8f2f0b2c584916b66c9d530c7f78fb9dbc8f857c4754979c866f6bff6b129549", func := "weftway/weftwaylaw24.ThreadsEnd", spec := "threadsEnd", unfollowed := true, recurses := true, apart := false, narrowed := true }
def ThreadsEndUptoSaid : Prop := threadsEndUptoRow.holds Try.pinned (OpenSpec.upto threadsEndSpec)

/-- 'weftwaylaw24.ThreadsFull', WHERE WHAT IT READS IS OF BULK AT MOST 1048576: true; the input reads as it did. -/
def threadsFullUptoRow : OpenClaim := { program := "ytnhhinlhfaapcaa", sum := "8f2f0b2c584916b66c9d530c7f78fb9dbc8f857c4754979c866f6bff6b129549", func := "weftway/weftwaylaw24.ThreadsFull", spec := "threadsFull", unfollowed := true, recurses := true, apart := false, narrowed := true }
def ThreadsFullUptoSaid : Prop := threadsFullUptoRow.holds Try.pinned (OpenSpec.upto threadsFullSpec)

/-- 'weftwaylaw24.ThreadsWithin', WHERE WHAT IT READS IS OF BULK AT MOST 1048576: true; the input reads as it did. -/
def threadsWithinUptoRow : OpenClaim := { program := "ytnhhinlhfaapcaa", sum := "8f2f0b2c584916b66c9d530c7f78fb9dbc8f857c4754979c866f6bff6b129549", func := "weftway/weftwaylaw24.ThreadsWithin", spec := "threadsWithin", unfollowed := true, recurses := true, apart := false, narrowed := true }
def ThreadsWithinUptoSaid : Prop := threadsWithinUptoRow.holds Try.pinned (OpenSpec.upto threadsWithinSpec)

/-- 'weftwaylaw24.ThreadsPlay', WHERE WHAT IT READS IS OF BULK AT MOST 1048576: true; the input reads as it did. -/
def threadsPlayUptoRow : OpenClaim := { program := "ytnhhinlhfaapcaa", sum := "8f2f0b2c584916b66c9d530c7f78fb9dbc8f857c4754979c866f6bff6b129549", func := "weftway/weftwaylaw24.ThreadsPlay", spec := "threadsPlay", unfollowed := true, recurses := true, apart := false, narrowed := true }
def ThreadsPlayUptoSaid : Prop := threadsPlayUptoRow.holds Try.pinned (OpenSpec.upto threadsPlaySpec)

/-- 'weftwaylaw24.ThreadsNil', WHERE WHAT IT READS IS OF BULK AT MOST 1048576: true; the input reads as it did. -/
def threadsNilUptoRow : OpenClaim := { program := "ytnhhinlhfaapcaa", sum := "8f2f0b2c584916b66c9d530c7f78fb9dbc8f857c4754979c866f6bff6b129549", func := "weftway/weftwaylaw24.ThreadsNil", spec := "threadsNil", unfollowed := true, recurses := true, apart := false, narrowed := true }
def ThreadsNilUptoSaid : Prop := threadsNilUptoRow.holds Try.pinned (OpenSpec.upto threadsNilSpec)

end Rows
end Go.Proofs.Ytnhhinlhfaapcaa
