/-
  No cell of these rows narrows 'for every input' (looked for: loops, veiled, ifaces, maps, wideKeys, modest, calm, conditions, laid).
  DERIVED. THE GIVEN ROWS OF THIS SEAT. 7 by the template 'for every input the law returns true; each argument reads behind the call as it read before'; 0 by the template 'total and deterministic' (their statements: YtfhainobolfleaaTotals.lean).
  GIVEN WITH THE SEED: the statements are not yours to turn. If you find one false, say at which input.
  Laid BY PROGRAM, IN A SANDBOX (cutbox-rows.mjs): the forced cells as the released guide's own fill.sh prints them over the translation 3b766e79fd9d3d52… (all of the seat's roots in one cut). By AI agents, Wed Nov 11 2026. No macro, syntax, notation, axiom, sorry.
-/
import Derived.Test.YtfhainobolfleaaChecked
import GoSem.Claim
import GoSem.ClaimJoined
import GoSem.ClaimMapViews
import Derived.JoinedTies
import Derived.KernelRfl
namespace Go.Proofs.Ytfhainobolfleaa
/- THE CELL 'sum', in the pinned program and in every row, IS THE sha256 OF THE DUMP (.gsa) THAT YtfhainobolfleaaProg.lean LOADS. Nothing in Lean hashes anything: it is a label: what it is worth is what the hold of that sum in a sandbox is worth. -/
noncomputable def Try.pinned : Pinned := { name := "ytfhainobolfleaa", sum := "3b766e79fd9d3d5240bd7ede166e785cfc888ffb225e1ad3b01a4fd9625e69bb", checked := Try.checked }
namespace Rows
def none {H : Type} : Left H := { results := [], args := [] }

/-- 'weftwaylaw26.ClockTicks': WHATEVER THE INPUT: true; the input reads as it did. -/
def clockTicksSpec : ChangeSpec := { name := "clockTicks", fn := fun _ => fun
  | [d1, d2] => { results := [.lit (.bool true)], args := [d1, d2] }
  | _ => none }
def clockTicksRow : OpenClaim := { program := "ytfhainobolfleaa", sum := "3b766e79fd9d3d5240bd7ede166e785cfc888ffb225e1ad3b01a4fd9625e69bb", func := "weftway/weftwaylaw26.ClockTicks", spec := "clockTicks", unfollowed := true, recurses := true, apart := false }
def ClockTicksSaid : Prop := clockTicksRow.holds Try.pinned (OpenSpec.ofChange clockTicksSpec)

/-- ITS FALSE NEIGHBOUR: 'it returns false'. Refute it at one input. -/
def clockTicksWrong : ChangeSpec := { name := "clockTicks", fn := fun _ => fun
  | [d1, d2] => { results := [.lit (.bool false)], args := [d1, d2] }
  | _ => none }
def ClockTicksWrongFalsely : Prop := clockTicksRow.holds Try.pinned (OpenSpec.ofChange clockTicksWrong)

/-- 'weftwaylaw26.ClockTwo': WHATEVER THE INPUT: true; the input reads as it did. -/
def clockTwoSpec : ChangeSpec := { name := "clockTwo", fn := fun _ => fun
  | [d1, d2] => { results := [.lit (.bool true)], args := [d1, d2] }
  | _ => none }
def clockTwoRow : OpenClaim := { program := "ytfhainobolfleaa", sum := "3b766e79fd9d3d5240bd7ede166e785cfc888ffb225e1ad3b01a4fd9625e69bb", func := "weftway/weftwaylaw26.ClockTwo", spec := "clockTwo", unfollowed := true, recurses := true, apart := false }
def ClockTwoSaid : Prop := clockTwoRow.holds Try.pinned (OpenSpec.ofChange clockTwoSpec)

/-- ITS FALSE NEIGHBOUR: 'it returns false'. Refute it at one input. -/
def clockTwoWrong : ChangeSpec := { name := "clockTwo", fn := fun _ => fun
  | [d1, d2] => { results := [.lit (.bool false)], args := [d1, d2] }
  | _ => none }
def ClockTwoWrongFalsely : Prop := clockTwoRow.holds Try.pinned (OpenSpec.ofChange clockTwoWrong)

/-- 'weftwaylaw26.ClockLeast': WHATEVER THE INPUT: true; the input reads as it did. -/
def clockLeastSpec : ChangeSpec := { name := "clockLeast", fn := fun _ => fun
  | [d1, d2, d3] => { results := [.lit (.bool true)], args := [d1, d2, d3] }
  | _ => none }
def clockLeastRow : OpenClaim := { program := "ytfhainobolfleaa", sum := "3b766e79fd9d3d5240bd7ede166e785cfc888ffb225e1ad3b01a4fd9625e69bb", func := "weftway/weftwaylaw26.ClockLeast", spec := "clockLeast", unfollowed := true, recurses := true, apart := false }
def ClockLeastSaid : Prop := clockLeastRow.holds Try.pinned (OpenSpec.ofChange clockLeastSpec)

/-- ITS FALSE NEIGHBOUR: 'it returns false'. Refute it at one input. -/
def clockLeastWrong : ChangeSpec := { name := "clockLeast", fn := fun _ => fun
  | [d1, d2, d3] => { results := [.lit (.bool false)], args := [d1, d2, d3] }
  | _ => none }
def ClockLeastWrongFalsely : Prop := clockLeastRow.holds Try.pinned (OpenSpec.ofChange clockLeastWrong)

/-- 'weftwaylaw26.ClockOrderless': WHATEVER THE INPUT: true; the input reads as it did. -/
def clockOrderlessSpec : ChangeSpec := { name := "clockOrderless", fn := fun _ => fun
  | [d1, d2, d3] => { results := [.lit (.bool true)], args := [d1, d2, d3] }
  | _ => none }
def clockOrderlessRow : OpenClaim := { program := "ytfhainobolfleaa", sum := "3b766e79fd9d3d5240bd7ede166e785cfc888ffb225e1ad3b01a4fd9625e69bb", func := "weftway/weftwaylaw26.ClockOrderless", spec := "clockOrderless", unfollowed := true, recurses := true, apart := false }
def ClockOrderlessSaid : Prop := clockOrderlessRow.holds Try.pinned (OpenSpec.ofChange clockOrderlessSpec)

/-- ITS FALSE NEIGHBOUR: 'it returns false'. Refute it at one input. -/
def clockOrderlessWrong : ChangeSpec := { name := "clockOrderless", fn := fun _ => fun
  | [d1, d2, d3] => { results := [.lit (.bool false)], args := [d1, d2, d3] }
  | _ => none }
def ClockOrderlessWrongFalsely : Prop := clockOrderlessRow.holds Try.pinned (OpenSpec.ofChange clockOrderlessWrong)

/-- 'weftwaylaw26.ClockLater': WHATEVER THE INPUT: true; the input reads as it did. -/
def clockLaterSpec : ChangeSpec := { name := "clockLater", fn := fun _ => fun
  | [d1, d2, d3] => { results := [.lit (.bool true)], args := [d1, d2, d3] }
  | _ => none }
def clockLaterRow : OpenClaim := { program := "ytfhainobolfleaa", sum := "3b766e79fd9d3d5240bd7ede166e785cfc888ffb225e1ad3b01a4fd9625e69bb", func := "weftway/weftwaylaw26.ClockLater", spec := "clockLater", unfollowed := true, recurses := true, apart := false }
def ClockLaterSaid : Prop := clockLaterRow.holds Try.pinned (OpenSpec.ofChange clockLaterSpec)

/-- ITS FALSE NEIGHBOUR: 'it returns false'. Refute it at one input. -/
def clockLaterWrong : ChangeSpec := { name := "clockLater", fn := fun _ => fun
  | [d1, d2, d3] => { results := [.lit (.bool false)], args := [d1, d2, d3] }
  | _ => none }
def ClockLaterWrongFalsely : Prop := clockLaterRow.holds Try.pinned (OpenSpec.ofChange clockLaterWrong)

/-- 'weftwaylaw26.ClockOrder': WHATEVER THE INPUT: true; the input reads as it did. -/
def clockOrderSpec : ChangeSpec := { name := "clockOrder", fn := fun _ => fun
  | [d1, d2, d3] => { results := [.lit (.bool true)], args := [d1, d2, d3] }
  | _ => none }
def clockOrderRow : OpenClaim := { program := "ytfhainobolfleaa", sum := "3b766e79fd9d3d5240bd7ede166e785cfc888ffb225e1ad3b01a4fd9625e69bb", func := "weftway/weftwaylaw26.ClockOrder", spec := "clockOrder", unfollowed := true, recurses := true, apart := false }
def ClockOrderSaid : Prop := clockOrderRow.holds Try.pinned (OpenSpec.ofChange clockOrderSpec)

/-- ITS FALSE NEIGHBOUR: 'it returns false'. Refute it at one input. -/
def clockOrderWrong : ChangeSpec := { name := "clockOrder", fn := fun _ => fun
  | [d1, d2, d3] => { results := [.lit (.bool false)], args := [d1, d2, d3] }
  | _ => none }
def ClockOrderWrongFalsely : Prop := clockOrderRow.holds Try.pinned (OpenSpec.ofChange clockOrderWrong)

/-- 'weftwaylaw26.ClockForm': WHATEVER THE INPUT: true; the input reads as it did. -/
def clockFormSpec : ChangeSpec := { name := "clockForm", fn := fun _ => fun
  | [d1, d2, d3, d4] => { results := [.lit (.bool true)], args := [d1, d2, d3, d4] }
  | _ => none }
def clockFormRow : OpenClaim := { program := "ytfhainobolfleaa", sum := "3b766e79fd9d3d5240bd7ede166e785cfc888ffb225e1ad3b01a4fd9625e69bb", func := "weftway/weftwaylaw26.ClockForm", spec := "clockForm", unfollowed := true, recurses := true, apart := false }
def ClockFormSaid : Prop := clockFormRow.holds Try.pinned (OpenSpec.ofChange clockFormSpec)

/-- ITS FALSE NEIGHBOUR: 'it returns false'. Refute it at one input. -/
def clockFormWrong : ChangeSpec := { name := "clockForm", fn := fun _ => fun
  | [d1, d2, d3, d4] => { results := [.lit (.bool false)], args := [d1, d2, d3, d4] }
  | _ => none }
def ClockFormWrongFalsely : Prop := clockFormRow.holds Try.pinned (OpenSpec.ofChange clockFormWrong)

/- THE SECOND FORM. 'bulk': how many values and letters a reading holds, each counted each time it is reached (what is shared counts as often as it is met; a slice's spare places count too). A statement '..UptoSaid' is the law's where the arguments, and the package variables that the reading takes, are together of bulk at most 1048576: NARROWER than '..Said'. Prove '..Said' where nothing that the law and all that it calls make is longer than what came in: it says more and counts as full. Else prove '..UptoSaid'. A law counts once. -/
mutual
def uptoBulk {H : Type} : DataW H → Nat
  | .lit (.string bytes) => bytes.length + 1
  | .lit _ => 1
  | .nil => 1
  | .ptr d => uptoBulk d + 1
  | .slice elems spare => uptoBulkAll elems + uptoBulkAll spare + 1
  | .agg parts => uptoBulkAll parts + 1
  | .iface _ d => uptoBulk d + 1
  | .map entries => uptoBulkEntries entries + 1
  | .held _ => 1
def uptoBulkAll {H : Type} : List (DataW H) → Nat
  | [] => 0
  | d :: r => uptoBulk d + uptoBulkAll r
def uptoBulkEntries {H : Type} : List (Lit × DataW H) → Nat
  | [] => 0
  | x :: r => uptoBulkEntry x + uptoBulkEntries r
def uptoBulkEntry {H : Type} : Lit × DataW H → Nat
  | (.string bytes, d) => bytes.length + uptoBulk d + 1
  | (_, d) => uptoBulk d + 1
 end
def uptoSmall : (H : Type) → List (DataW H) → Bool := fun _ ds => decide (uptoBulkAll ds ≤ 1048576)
def OpenSpec.upto (s : _root_.Go.ChangeSpec) : _root_.Go.OpenSpec := { _root_.Go.OpenSpec.ofChange s with cond := some uptoSmall }

/-- 'weftwaylaw26.ClockTicks', WHERE WHAT IT READS IS OF BULK AT MOST 1048576: true; the input reads as it did. -/
def clockTicksUptoRow : OpenClaim := { program := "ytfhainobolfleaa", sum := "3b766e79fd9d3d5240bd7ede166e785cfc888ffb225e1ad3b01a4fd9625e69bb", func := "weftway/weftwaylaw26.ClockTicks", spec := "clockTicks", unfollowed := true, recurses := true, apart := false, narrowed := true }
def ClockTicksUptoSaid : Prop := clockTicksUptoRow.holds Try.pinned (OpenSpec.upto clockTicksSpec)

/-- 'weftwaylaw26.ClockTwo', WHERE WHAT IT READS IS OF BULK AT MOST 1048576: true; the input reads as it did. -/
def clockTwoUptoRow : OpenClaim := { program := "ytfhainobolfleaa", sum := "3b766e79fd9d3d5240bd7ede166e785cfc888ffb225e1ad3b01a4fd9625e69bb", func := "weftway/weftwaylaw26.ClockTwo", spec := "clockTwo", unfollowed := true, recurses := true, apart := false, narrowed := true }
def ClockTwoUptoSaid : Prop := clockTwoUptoRow.holds Try.pinned (OpenSpec.upto clockTwoSpec)

/-- 'weftwaylaw26.ClockLeast', WHERE WHAT IT READS IS OF BULK AT MOST 1048576: true; the input reads as it did. -/
def clockLeastUptoRow : OpenClaim := { program := "ytfhainobolfleaa", sum := "3b766e79fd9d3d5240bd7ede166e785cfc888ffb225e1ad3b01a4fd9625e69bb", func := "weftway/weftwaylaw26.ClockLeast", spec := "clockLeast", unfollowed := true, recurses := true, apart := false, narrowed := true }
def ClockLeastUptoSaid : Prop := clockLeastUptoRow.holds Try.pinned (OpenSpec.upto clockLeastSpec)

/-- 'weftwaylaw26.ClockOrderless', WHERE WHAT IT READS IS OF BULK AT MOST 1048576: true; the input reads as it did. -/
def clockOrderlessUptoRow : OpenClaim := { program := "ytfhainobolfleaa", sum := "3b766e79fd9d3d5240bd7ede166e785cfc888ffb225e1ad3b01a4fd9625e69bb", func := "weftway/weftwaylaw26.ClockOrderless", spec := "clockOrderless", unfollowed := true, recurses := true, apart := false, narrowed := true }
def ClockOrderlessUptoSaid : Prop := clockOrderlessUptoRow.holds Try.pinned (OpenSpec.upto clockOrderlessSpec)

/-- 'weftwaylaw26.ClockLater', WHERE WHAT IT READS IS OF BULK AT MOST 1048576: true; the input reads as it did. -/
def clockLaterUptoRow : OpenClaim := { program := "ytfhainobolfleaa", sum := "3b766e79fd9d3d5240bd7ede166e785cfc888ffb225e1ad3b01a4fd9625e69bb", func := "weftway/weftwaylaw26.ClockLater", spec := "clockLater", unfollowed := true, recurses := true, apart := false, narrowed := true }
def ClockLaterUptoSaid : Prop := clockLaterUptoRow.holds Try.pinned (OpenSpec.upto clockLaterSpec)

/-- 'weftwaylaw26.ClockOrder', WHERE WHAT IT READS IS OF BULK AT MOST 1048576: true; the input reads as it did. -/
def clockOrderUptoRow : OpenClaim := { program := "ytfhainobolfleaa", sum := "3b766e79fd9d3d5240bd7ede166e785cfc888ffb225e1ad3b01a4fd9625e69bb", func := "weftway/weftwaylaw26.ClockOrder", spec := "clockOrder", unfollowed := true, recurses := true, apart := false, narrowed := true }
def ClockOrderUptoSaid : Prop := clockOrderUptoRow.holds Try.pinned (OpenSpec.upto clockOrderSpec)

/-- 'weftwaylaw26.ClockForm', WHERE WHAT IT READS IS OF BULK AT MOST 1048576: true; the input reads as it did. -/
def clockFormUptoRow : OpenClaim := { program := "ytfhainobolfleaa", sum := "3b766e79fd9d3d5240bd7ede166e785cfc888ffb225e1ad3b01a4fd9625e69bb", func := "weftway/weftwaylaw26.ClockForm", spec := "clockForm", unfollowed := true, recurses := true, apart := false, narrowed := true }
def ClockFormUptoSaid : Prop := clockFormUptoRow.holds Try.pinned (OpenSpec.upto clockFormSpec)

end Rows
end Go.Proofs.Ytfhainobolfleaa
