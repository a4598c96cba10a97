/-
  No cell of these rows narrows 'for every input' (looked for: loops, veiled, ifaces, maps, wideKeys, modest, calm, conditions, laid).
  DERIVED. THE GIVEN ROWS OF THIS SEAT. 6 by the template 'for every input the law returns true; each argument reads behind the call as it read before'; 0 by the template 'total and deterministic' (their statements: YthbajgpoldajmaaTotals.lean).
  GIVEN WITH THE SEED: the statements are not yours to turn. If you find one false, say at which input.
  Laid BY PROGRAM, IN A SANDBOX (cutbox-rows.mjs): the forced cells as the released guide's own fill.sh prints them over the translation d6ae0c88b71e7dde… (all of the seat's roots in one cut). By AI agents, Wed Nov 11 2026. No macro, syntax, notation, axiom, sorry.
-/
import Derived.Test.YthbajgpoldajmaaChecked
import GoSem.Claim
import GoSem.ClaimJoined
import GoSem.ClaimMapViews
import Derived.JoinedTies
import Derived.KernelRfl
namespace Go.Proofs.Ythbajgpoldajmaa
/- THE CELL 'sum', in the pinned program and in every row, IS THE sha256 OF THE DUMP (.gsa) THAT YthbajgpoldajmaaProg.lean LOADS. Nothing in Lean hashes anything: it is a label: what it is worth is what the hold of that sum in a sandbox is worth. -/
noncomputable def Try.pinned : Pinned := { name := "ythbajgpoldajmaa", sum := "d6ae0c88b71e7dde9428ca7d87bbedd1daec0413c1b5f8fc4bde9d6f0ace2f59", checked := Try.checked }
namespace Rows
def none {H : Type} : Left H := { results := [], args := [] }

/-- 'weftwaylaw22.LocksNil': WHATEVER THE INPUT: true; the input reads as it did. -/
def locksNilSpec : ChangeSpec := { name := "locksNil", fn := fun _ => fun
  | [d] => { results := [.lit (.bool true)], args := [d] }
  | _ => none }
def locksNilRow : OpenClaim := { program := "ythbajgpoldajmaa", sum := "d6ae0c88b71e7dde9428ca7d87bbedd1daec0413c1b5f8fc4bde9d6f0ace2f59", func := "weftway/weftwaylaw22.LocksNil", spec := "locksNil", unfollowed := true, recurses := true, apart := false }
def LocksNilSaid : Prop := locksNilRow.holds Try.pinned (OpenSpec.ofChange locksNilSpec)

/-- ITS FALSE NEIGHBOUR: 'it returns false'. Refute it at one input. -/
def locksNilWrong : ChangeSpec := { name := "locksNil", fn := fun _ => fun
  | [d] => { results := [.lit (.bool false)], args := [d] }
  | _ => none }
def LocksNilWrongFalsely : Prop := locksNilRow.holds Try.pinned (OpenSpec.ofChange locksNilWrong)

/-- 'weftwaylaw22.LocksPlay': WHATEVER THE INPUT: true; the input reads as it did. -/
def locksPlaySpec : ChangeSpec := { name := "locksPlay", fn := fun _ => fun
  | [d] => { results := [.lit (.bool true)], args := [d] }
  | _ => none }
def locksPlayRow : OpenClaim := { program := "ythbajgpoldajmaa", sum := "d6ae0c88b71e7dde9428ca7d87bbedd1daec0413c1b5f8fc4bde9d6f0ace2f59", func := "weftway/weftwaylaw22.LocksPlay", spec := "locksPlay", unfollowed := true, recurses := true, apart := false }
def LocksPlaySaid : Prop := locksPlayRow.holds Try.pinned (OpenSpec.ofChange locksPlaySpec)

/-- ITS FALSE NEIGHBOUR: 'it returns false'. Refute it at one input. -/
def locksPlayWrong : ChangeSpec := { name := "locksPlay", fn := fun _ => fun
  | [d] => { results := [.lit (.bool false)], args := [d] }
  | _ => none }
def LocksPlayWrongFalsely : Prop := locksPlayRow.holds Try.pinned (OpenSpec.ofChange locksPlayWrong)

/-- 'weftwaylaw22.LocksOne': WHATEVER THE INPUT: true; the input reads as it did. -/
def locksOneSpec : ChangeSpec := { name := "locksOne", fn := fun _ => fun
  | [d1, d2] => { results := [.lit (.bool true)], args := [d1, d2] }
  | _ => none }
def locksOneRow : OpenClaim := { program := "ythbajgpoldajmaa", sum := "d6ae0c88b71e7dde9428ca7d87bbedd1daec0413c1b5f8fc4bde9d6f0ace2f59", func := "weftway/weftwaylaw22.LocksOne", spec := "locksOne", unfollowed := true, recurses := true, apart := false }
def LocksOneSaid : Prop := locksOneRow.holds Try.pinned (OpenSpec.ofChange locksOneSpec)

/-- ITS FALSE NEIGHBOUR: 'it returns false'. Refute it at one input. -/
def locksOneWrong : ChangeSpec := { name := "locksOne", fn := fun _ => fun
  | [d1, d2] => { results := [.lit (.bool false)], args := [d1, d2] }
  | _ => none }
def LocksOneWrongFalsely : Prop := locksOneRow.holds Try.pinned (OpenSpec.ofChange locksOneWrong)

/-- 'weftwaylaw22.LocksApart': WHATEVER THE INPUT: true; the input reads as it did. -/
def locksApartSpec : ChangeSpec := { name := "locksApart", fn := fun _ => fun
  | [d1, d2] => { results := [.lit (.bool true)], args := [d1, d2] }
  | _ => none }
def locksApartRow : OpenClaim := { program := "ythbajgpoldajmaa", sum := "d6ae0c88b71e7dde9428ca7d87bbedd1daec0413c1b5f8fc4bde9d6f0ace2f59", func := "weftway/weftwaylaw22.LocksApart", spec := "locksApart", unfollowed := true, recurses := true, apart := false }
def LocksApartSaid : Prop := locksApartRow.holds Try.pinned (OpenSpec.ofChange locksApartSpec)

/-- ITS FALSE NEIGHBOUR: 'it returns false'. Refute it at one input. -/
def locksApartWrong : ChangeSpec := { name := "locksApart", fn := fun _ => fun
  | [d1, d2] => { results := [.lit (.bool false)], args := [d1, d2] }
  | _ => none }
def LocksApartWrongFalsely : Prop := locksApartRow.holds Try.pinned (OpenSpec.ofChange locksApartWrong)

/-- 'weftwaylaw22.LocksTurns': WHATEVER THE INPUT: true; the input reads as it did. -/
def locksTurnsSpec : ChangeSpec := { name := "locksTurns", fn := fun _ => fun
  | [d1, d2, d3] => { results := [.lit (.bool true)], args := [d1, d2, d3] }
  | _ => none }
def locksTurnsRow : OpenClaim := { program := "ythbajgpoldajmaa", sum := "d6ae0c88b71e7dde9428ca7d87bbedd1daec0413c1b5f8fc4bde9d6f0ace2f59", func := "weftway/weftwaylaw22.LocksTurns", spec := "locksTurns", unfollowed := true, recurses := true, apart := false }
def LocksTurnsSaid : Prop := locksTurnsRow.holds Try.pinned (OpenSpec.ofChange locksTurnsSpec)

/-- ITS FALSE NEIGHBOUR: 'it returns false'. Refute it at one input. -/
def locksTurnsWrong : ChangeSpec := { name := "locksTurns", fn := fun _ => fun
  | [d1, d2, d3] => { results := [.lit (.bool false)], args := [d1, d2, d3] }
  | _ => none }
def LocksTurnsWrongFalsely : Prop := locksTurnsRow.holds Try.pinned (OpenSpec.ofChange locksTurnsWrong)

/-- 'weftwaylaw22.LocksMake': WHATEVER THE INPUT: true; the input reads as it did. -/
def locksMakeSpec : ChangeSpec := { name := "locksMake", fn := fun _ => fun
  | [d1, d2, d3] => { results := [.lit (.bool true)], args := [d1, d2, d3] }
  | _ => none }
def locksMakeRow : OpenClaim := { program := "ythbajgpoldajmaa", sum := "d6ae0c88b71e7dde9428ca7d87bbedd1daec0413c1b5f8fc4bde9d6f0ace2f59", func := "weftway/weftwaylaw22.LocksMake", spec := "locksMake", unfollowed := true, recurses := true, apart := false }
def LocksMakeSaid : Prop := locksMakeRow.holds Try.pinned (OpenSpec.ofChange locksMakeSpec)

/-- ITS FALSE NEIGHBOUR: 'it returns false'. Refute it at one input. -/
def locksMakeWrong : ChangeSpec := { name := "locksMake", fn := fun _ => fun
  | [d1, d2, d3] => { results := [.lit (.bool false)], args := [d1, d2, d3] }
  | _ => none }
def LocksMakeWrongFalsely : Prop := locksMakeRow.holds Try.pinned (OpenSpec.ofChange locksMakeWrong)

/- THE SECOND FORM. 'bulk': how many values and letters a reading holds, each counted each time it is reached (what is shared counts as often as it is met; a slice's spare places count too). A statement '..UptoSaid' is the law's where the arguments, and the package variables that the reading takes, are together of bulk at most 1048576: NARROWER than '..Said'. Prove '..Said' where nothing that the law and all that it calls make is longer than what came in: it says more and counts as full. Else prove '..UptoSaid'. A law counts once. -/
mutual
def uptoBulk {H : Type} : DataW H → Nat
  | .lit (.string bytes) => bytes.length + 1
  | .lit _ => 1
  | .nil => 1
  | .ptr d => uptoBulk d + 1
  | .slice elems spare => uptoBulkAll elems + uptoBulkAll spare + 1
  | .agg parts => uptoBulkAll parts + 1
  | .iface _ d => uptoBulk d + 1
  | .map entries => uptoBulkEntries entries + 1
  | .held _ => 1
def uptoBulkAll {H : Type} : List (DataW H) → Nat
  | [] => 0
  | d :: r => uptoBulk d + uptoBulkAll r
def uptoBulkEntries {H : Type} : List (Lit × DataW H) → Nat
  | [] => 0
  | x :: r => uptoBulkEntry x + uptoBulkEntries r
def uptoBulkEntry {H : Type} : Lit × DataW H → Nat
  | (.string bytes, d) => bytes.length + uptoBulk d + 1
  | (_, d) => uptoBulk d + 1
 end
def uptoSmall : (H : Type) → List (DataW H) → Bool := fun _ ds => decide (uptoBulkAll ds ≤ 1048576)
def OpenSpec.upto (s : _root_.Go.ChangeSpec) : _root_.Go.OpenSpec := { _root_.Go.OpenSpec.ofChange s with cond := some uptoSmall }

/-- 'weftwaylaw22.LocksNil', WHERE WHAT IT READS IS OF BULK AT MOST 1048576: true; the input reads as it did. -/
def locksNilUptoRow : OpenClaim := { program := "ythbajgpoldajmaa", sum := "d6ae0c88b71e7dde9428ca7d87bbedd1daec0413c1b5f8fc4bde9d6f0ace2f59", func := "weftway/weftwaylaw22.LocksNil", spec := "locksNil", unfollowed := true, recurses := true, apart := false, narrowed := true }
def LocksNilUptoSaid : Prop := locksNilUptoRow.holds Try.pinned (OpenSpec.upto locksNilSpec)

/-- 'weftwaylaw22.LocksPlay', WHERE WHAT IT READS IS OF BULK AT MOST 1048576: true; the input reads as it did. -/
def locksPlayUptoRow : OpenClaim := { program := "ythbajgpoldajmaa", sum := "d6ae0c88b71e7dde9428ca7d87bbedd1daec0413c1b5f8fc4bde9d6f0ace2f59", func := "weftway/weftwaylaw22.LocksPlay", spec := "locksPlay", unfollowed := true, recurses := true, apart := false, narrowed := true }
def LocksPlayUptoSaid : Prop := locksPlayUptoRow.holds Try.pinned (OpenSpec.upto locksPlaySpec)

/-- 'weftwaylaw22.LocksOne', WHERE WHAT IT READS IS OF BULK AT MOST 1048576: true; the input reads as it did. -/
def locksOneUptoRow : OpenClaim := { program := "ythbajgpoldajmaa", sum := "d6ae0c88b71e7dde9428ca7d87bbedd1daec0413c1b5f8fc4bde9d6f0ace2f59", func := "weftway/weftwaylaw22.LocksOne", spec := "locksOne", unfollowed := true, recurses := true, apart := false, narrowed := true }
def LocksOneUptoSaid : Prop := locksOneUptoRow.holds Try.pinned (OpenSpec.upto locksOneSpec)

/-- 'weftwaylaw22.LocksApart', WHERE WHAT IT READS IS OF BULK AT MOST 1048576: true; the input reads as it did. -/
def locksApartUptoRow : OpenClaim := { program := "ythbajgpoldajmaa", sum := "d6ae0c88b71e7dde9428ca7d87bbedd1daec0413c1b5f8fc4bde9d6f0ace2f59", func := "weftway/weftwaylaw22.LocksApart", spec := "locksApart", unfollowed := true, recurses := true, apart := false, narrowed := true }
def LocksApartUptoSaid : Prop := locksApartUptoRow.holds Try.pinned (OpenSpec.upto locksApartSpec)

/-- 'weftwaylaw22.LocksTurns', WHERE WHAT IT READS IS OF BULK AT MOST 1048576: true; the input reads as it did. -/
def locksTurnsUptoRow : OpenClaim := { program := "ythbajgpoldajmaa", sum := "d6ae0c88b71e7dde9428ca7d87bbedd1daec0413c1b5f8fc4bde9d6f0ace2f59", func := "weftway/weftwaylaw22.LocksTurns", spec := "locksTurns", unfollowed := true, recurses := true, apart := false, narrowed := true }
def LocksTurnsUptoSaid : Prop := locksTurnsUptoRow.holds Try.pinned (OpenSpec.upto locksTurnsSpec)

/-- 'weftwaylaw22.LocksMake', WHERE WHAT IT READS IS OF BULK AT MOST 1048576: true; the input reads as it did. -/
def locksMakeUptoRow : OpenClaim := { program := "ythbajgpoldajmaa", sum := "d6ae0c88b71e7dde9428ca7d87bbedd1daec0413c1b5f8fc4bde9d6f0ace2f59", func := "weftway/weftwaylaw22.LocksMake", spec := "locksMake", unfollowed := true, recurses := true, apart := false, narrowed := true }
def LocksMakeUptoSaid : Prop := locksMakeUptoRow.holds Try.pinned (OpenSpec.upto locksMakeSpec)

end Rows
end Go.Proofs.Ythbajgpoldajmaa
