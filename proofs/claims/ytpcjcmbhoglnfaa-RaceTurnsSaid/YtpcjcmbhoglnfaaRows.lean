/-
  No cell of these rows narrows 'for every input' (looked for: loops, veiled, ifaces, maps, wideKeys, modest, calm, conditions, laid).
  DERIVED. THE GIVEN ROWS OF THIS SEAT. 8 by the template 'for every input the law returns true; each argument reads behind the call as it read before'; 0 by the template 'total and deterministic' (their statements: YtpcjcmbhoglnfaaTotals.lean).
  GIVEN WITH THE SEED: the statements are not yours to turn. If you find one false, say at which input.
  Laid BY PROGRAM, IN A SANDBOX (cutbox-rows.mjs): the forced cells as the released guide's own fill.sh prints them over the translation 2513c57d97b13f3e… (all of the seat's roots in one cut). By AI agents, Wed Nov 11 2026. No macro, syntax, notation, axiom, sorry.
-/
import Derived.Test.YtpcjcmbhoglnfaaChecked
import GoSem.Claim
import GoSem.ClaimJoined
import GoSem.ClaimMapViews
import Derived.JoinedTies
import Derived.KernelRfl
namespace Go.Proofs.Ytpcjcmbhoglnfaa
/- THE CELL 'sum', in the pinned program and in every row, IS THE sha256 OF THE DUMP (.gsa) THAT YtpcjcmbhoglnfaaProg.lean LOADS. Nothing in Lean hashes anything: it is a label: what it is worth is what the hold of that sum in a sandbox is worth. -/
noncomputable def Try.pinned : Pinned := { name := "ytpcjcmbhoglnfaa", sum := "2513c57d97b13f3ecb8707506f753dae0b274eebb1a9a2d74f8f83e089b84eb5", checked := Try.checked }
namespace Rows
def none {H : Type} : Left H := { results := [], args := [] }

/-- 'weftwaytop.TopRaces': WHATEVER THE INPUT: true; the input reads as it did. -/
def topRacesSpec : ChangeSpec := { name := "topRaces", fn := fun _ => fun
  | [d] => { results := [.lit (.bool true)], args := [d] }
  | _ => none }
def topRacesRow : OpenClaim := { program := "ytpcjcmbhoglnfaa", sum := "2513c57d97b13f3ecb8707506f753dae0b274eebb1a9a2d74f8f83e089b84eb5", func := "weftway/weftwaytop.TopRaces", spec := "topRaces", unfollowed := true, recurses := true, apart := false }
def TopRacesSaid : Prop := topRacesRow.holds Try.pinned (OpenSpec.ofChange topRacesSpec)

/-- ITS FALSE NEIGHBOUR: 'it returns false'. Refute it at one input. -/
def topRacesWrong : ChangeSpec := { name := "topRaces", fn := fun _ => fun
  | [d] => { results := [.lit (.bool false)], args := [d] }
  | _ => none }
def TopRacesWrongFalsely : Prop := topRacesRow.holds Try.pinned (OpenSpec.ofChange topRacesWrong)

/-- 'weftwaylaw27.RaceBegins': WHATEVER THE INPUT: true; the input reads as it did. -/
def raceBeginsSpec : ChangeSpec := { name := "raceBegins", fn := fun _ => fun
  | [d1, d2] => { results := [.lit (.bool true)], args := [d1, d2] }
  | _ => none }
def raceBeginsRow : OpenClaim := { program := "ytpcjcmbhoglnfaa", sum := "2513c57d97b13f3ecb8707506f753dae0b274eebb1a9a2d74f8f83e089b84eb5", func := "weftway/weftwaylaw27.RaceBegins", spec := "raceBegins", unfollowed := true, recurses := true, apart := false }
def RaceBeginsSaid : Prop := raceBeginsRow.holds Try.pinned (OpenSpec.ofChange raceBeginsSpec)

/-- ITS FALSE NEIGHBOUR: 'it returns false'. Refute it at one input. -/
def raceBeginsWrong : ChangeSpec := { name := "raceBegins", fn := fun _ => fun
  | [d1, d2] => { results := [.lit (.bool false)], args := [d1, d2] }
  | _ => none }
def RaceBeginsWrongFalsely : Prop := raceBeginsRow.holds Try.pinned (OpenSpec.ofChange raceBeginsWrong)

/-- 'weftwaylaw27.RaceTurns': WHATEVER THE INPUT: true; the input reads as it did. -/
def raceTurnsSpec : ChangeSpec := { name := "raceTurns", fn := fun _ => fun
  | [d1, d2] => { results := [.lit (.bool true)], args := [d1, d2] }
  | _ => none }
def raceTurnsRow : OpenClaim := { program := "ytpcjcmbhoglnfaa", sum := "2513c57d97b13f3ecb8707506f753dae0b274eebb1a9a2d74f8f83e089b84eb5", func := "weftway/weftwaylaw27.RaceTurns", spec := "raceTurns", unfollowed := true, recurses := true, apart := false }
def RaceTurnsSaid : Prop := raceTurnsRow.holds Try.pinned (OpenSpec.ofChange raceTurnsSpec)

/-- ITS FALSE NEIGHBOUR: 'it returns false'. Refute it at one input. -/
def raceTurnsWrong : ChangeSpec := { name := "raceTurns", fn := fun _ => fun
  | [d1, d2] => { results := [.lit (.bool false)], args := [d1, d2] }
  | _ => none }
def RaceTurnsWrongFalsely : Prop := raceTurnsRow.holds Try.pinned (OpenSpec.ofChange raceTurnsWrong)

/-- 'weftwaylaw27.RaceTwo': WHATEVER THE INPUT: true; the input reads as it did. -/
def raceTwoSpec : ChangeSpec := { name := "raceTwo", fn := fun _ => fun
  | [d1, d2, d3] => { results := [.lit (.bool true)], args := [d1, d2, d3] }
  | _ => none }
def raceTwoRow : OpenClaim := { program := "ytpcjcmbhoglnfaa", sum := "2513c57d97b13f3ecb8707506f753dae0b274eebb1a9a2d74f8f83e089b84eb5", func := "weftway/weftwaylaw27.RaceTwo", spec := "raceTwo", unfollowed := true, recurses := true, apart := false }
def RaceTwoSaid : Prop := raceTwoRow.holds Try.pinned (OpenSpec.ofChange raceTwoSpec)

/-- ITS FALSE NEIGHBOUR: 'it returns false'. Refute it at one input. -/
def raceTwoWrong : ChangeSpec := { name := "raceTwo", fn := fun _ => fun
  | [d1, d2, d3] => { results := [.lit (.bool false)], args := [d1, d2, d3] }
  | _ => none }
def RaceTwoWrongFalsely : Prop := raceTwoRow.holds Try.pinned (OpenSpec.ofChange raceTwoWrong)

/-- 'weftwaylaw27.RaceFirst': WHATEVER THE INPUT: true; the input reads as it did. -/
def raceFirstSpec : ChangeSpec := { name := "raceFirst", fn := fun _ => fun
  | [d] => { results := [.lit (.bool true)], args := [d] }
  | _ => none }
def raceFirstRow : OpenClaim := { program := "ytpcjcmbhoglnfaa", sum := "2513c57d97b13f3ecb8707506f753dae0b274eebb1a9a2d74f8f83e089b84eb5", func := "weftway/weftwaylaw27.RaceFirst", spec := "raceFirst", unfollowed := true, recurses := true, apart := false }
def RaceFirstSaid : Prop := raceFirstRow.holds Try.pinned (OpenSpec.ofChange raceFirstSpec)

/-- ITS FALSE NEIGHBOUR: 'it returns false'. Refute it at one input. -/
def raceFirstWrong : ChangeSpec := { name := "raceFirst", fn := fun _ => fun
  | [d] => { results := [.lit (.bool false)], args := [d] }
  | _ => none }
def RaceFirstWrongFalsely : Prop := raceFirstRow.holds Try.pinned (OpenSpec.ofChange raceFirstWrong)

/-- 'weftwaylaw27.RaceAdded': WHATEVER THE INPUT: true; the input reads as it did. -/
def raceAddedSpec : ChangeSpec := { name := "raceAdded", fn := fun _ => fun
  | [d1, d2] => { results := [.lit (.bool true)], args := [d1, d2] }
  | _ => none }
def raceAddedRow : OpenClaim := { program := "ytpcjcmbhoglnfaa", sum := "2513c57d97b13f3ecb8707506f753dae0b274eebb1a9a2d74f8f83e089b84eb5", func := "weftway/weftwaylaw27.RaceAdded", spec := "raceAdded", unfollowed := true, recurses := true, apart := false }
def RaceAddedSaid : Prop := raceAddedRow.holds Try.pinned (OpenSpec.ofChange raceAddedSpec)

/-- ITS FALSE NEIGHBOUR: 'it returns false'. Refute it at one input. -/
def raceAddedWrong : ChangeSpec := { name := "raceAdded", fn := fun _ => fun
  | [d1, d2] => { results := [.lit (.bool false)], args := [d1, d2] }
  | _ => none }
def RaceAddedWrongFalsely : Prop := raceAddedRow.holds Try.pinned (OpenSpec.ofChange raceAddedWrong)

/-- 'weftwaylaw27.RaceAhead': WHATEVER THE INPUT: true; the input reads as it did. -/
def raceAheadSpec : ChangeSpec := { name := "raceAhead", fn := fun _ => fun
  | [d1, d2, d3] => { results := [.lit (.bool true)], args := [d1, d2, d3] }
  | _ => none }
def raceAheadRow : OpenClaim := { program := "ytpcjcmbhoglnfaa", sum := "2513c57d97b13f3ecb8707506f753dae0b274eebb1a9a2d74f8f83e089b84eb5", func := "weftway/weftwaylaw27.RaceAhead", spec := "raceAhead", unfollowed := true, recurses := true, apart := false }
def RaceAheadSaid : Prop := raceAheadRow.holds Try.pinned (OpenSpec.ofChange raceAheadSpec)

/-- ITS FALSE NEIGHBOUR: 'it returns false'. Refute it at one input. -/
def raceAheadWrong : ChangeSpec := { name := "raceAhead", fn := fun _ => fun
  | [d1, d2, d3] => { results := [.lit (.bool false)], args := [d1, d2, d3] }
  | _ => none }
def RaceAheadWrongFalsely : Prop := raceAheadRow.holds Try.pinned (OpenSpec.ofChange raceAheadWrong)

/-- 'weftwaylaw27.RaceThreads': WHATEVER THE INPUT: true; the input reads as it did. -/
def raceThreadsSpec : ChangeSpec := { name := "raceThreads", fn := fun _ => fun
  | [d1, d2, d3, d4] => { results := [.lit (.bool true)], args := [d1, d2, d3, d4] }
  | _ => none }
def raceThreadsRow : OpenClaim := { program := "ytpcjcmbhoglnfaa", sum := "2513c57d97b13f3ecb8707506f753dae0b274eebb1a9a2d74f8f83e089b84eb5", func := "weftway/weftwaylaw27.RaceThreads", spec := "raceThreads", unfollowed := true, recurses := true, apart := false }
def RaceThreadsSaid : Prop := raceThreadsRow.holds Try.pinned (OpenSpec.ofChange raceThreadsSpec)

/-- ITS FALSE NEIGHBOUR: 'it returns false'. Refute it at one input. -/
def raceThreadsWrong : ChangeSpec := { name := "raceThreads", fn := fun _ => fun
  | [d1, d2, d3, d4] => { results := [.lit (.bool false)], args := [d1, d2, d3, d4] }
  | _ => none }
def RaceThreadsWrongFalsely : Prop := raceThreadsRow.holds Try.pinned (OpenSpec.ofChange raceThreadsWrong)

/- THE SECOND FORM. 'bulk': how many values and letters a reading holds, each counted each time it is reached (what is shared counts as often as it is met; a slice's spare places count too). A statement '..UptoSaid' is the law's where the arguments, and the package variables that the reading takes, are together of bulk at most 1048576: NARROWER than '..Said'. Prove '..Said' where nothing that the law and all that it calls make is longer than what came in: it says more and counts as full. Else prove '..UptoSaid'. A law counts once. -/
mutual
def uptoBulk {H : Type} : DataW H → Nat
  | .lit (.string bytes) => bytes.length + 1
  | .lit _ => 1
  | .nil => 1
  | .ptr d => uptoBulk d + 1
  | .slice elems spare => uptoBulkAll elems + uptoBulkAll spare + 1
  | .agg parts => uptoBulkAll parts + 1
  | .iface _ d => uptoBulk d + 1
  | .map entries => uptoBulkEntries entries + 1
  | .held _ => 1
def uptoBulkAll {H : Type} : List (DataW H) → Nat
  | [] => 0
  | d :: r => uptoBulk d + uptoBulkAll r
def uptoBulkEntries {H : Type} : List (Lit × DataW H) → Nat
  | [] => 0
  | x :: r => uptoBulkEntry x + uptoBulkEntries r
def uptoBulkEntry {H : Type} : Lit × DataW H → Nat
  | (.string bytes, d) => bytes.length + uptoBulk d + 1
  | (_, d) => uptoBulk d + 1
 end
def uptoSmall : (H : Type) → List (DataW H) → Bool := fun _ ds => decide (uptoBulkAll ds ≤ 1048576)
def OpenSpec.upto (s : _root_.Go.ChangeSpec) : _root_.Go.OpenSpec := { _root_.Go.OpenSpec.ofChange s with cond := some uptoSmall }

/-- 'weftwaytop.TopRaces', WHERE WHAT IT READS IS OF BULK AT MOST 1048576: true; the input reads as it did. -/
def topRacesUptoRow : OpenClaim := { program := "ytpcjcmbhoglnfaa", sum := "2513c57d97b13f3ecb8707506f753dae0b274eebb1a9a2d74f8f83e089b84eb5", func := "weftway/weftwaytop.TopRaces", spec := "topRaces", unfollowed := true, recurses := true, apart := false, narrowed := true }
def TopRacesUptoSaid : Prop := topRacesUptoRow.holds Try.pinned (OpenSpec.upto topRacesSpec)

/-- 'weftwaylaw27.RaceBegins', WHERE WHAT IT READS IS OF BULK AT MOST 1048576: true; the input reads as it did. -/
def raceBeginsUptoRow : OpenClaim := { program := "ytpcjcmbhoglnfaa", sum := "2513c57d97b13f3ecb8707506f753dae0b274eebb1a9a2d74f8f83e089b84eb5", func := "weftway/weftwaylaw27.RaceBegins", spec := "raceBegins", unfollowed := true, recurses := true, apart := false, narrowed := true }
def RaceBeginsUptoSaid : Prop := raceBeginsUptoRow.holds Try.pinned (OpenSpec.upto raceBeginsSpec)

/-- 'weftwaylaw27.RaceTurns', WHERE WHAT IT READS IS OF BULK AT MOST 1048576: true; the input reads as it did. -/
def raceTurnsUptoRow : OpenClaim := { program := "ytpcjcmbhoglnfaa", sum := "2513c57d97b13f3ecb8707506f753dae0b274eebb1a9a2d74f8f83e089b84eb5", func := "weftway/weftwaylaw27.RaceTurns", spec := "raceTurns", unfollowed := true, recurses := true, apart := false, narrowed := true }
def RaceTurnsUptoSaid : Prop := raceTurnsUptoRow.holds Try.pinned (OpenSpec.upto raceTurnsSpec)

/-- 'weftwaylaw27.RaceTwo', WHERE WHAT IT READS IS OF BULK AT MOST 1048576: true; the input reads as it did. -/
def raceTwoUptoRow : OpenClaim := { program := "ytpcjcmbhoglnfaa", sum := "2513c57d97b13f3ecb8707506f753dae0b274eebb1a9a2d74f8f83e089b84eb5", func := "weftway/weftwaylaw27.RaceTwo", spec := "raceTwo", unfollowed := true, recurses := true, apart := false, narrowed := true }
def RaceTwoUptoSaid : Prop := raceTwoUptoRow.holds Try.pinned (OpenSpec.upto raceTwoSpec)

/-- 'weftwaylaw27.RaceFirst', WHERE WHAT IT READS IS OF BULK AT MOST 1048576: true; the input reads as it did. -/
def raceFirstUptoRow : OpenClaim := { program := "ytpcjcmbhoglnfaa", sum := "2513c57d97b13f3ecb8707506f753dae0b274eebb1a9a2d74f8f83e089b84eb5", func := "weftway/weftwaylaw27.RaceFirst", spec := "raceFirst", unfollowed := true, recurses := true, apart := false, narrowed := true }
def RaceFirstUptoSaid : Prop := raceFirstUptoRow.holds Try.pinned (OpenSpec.upto raceFirstSpec)

/-- 'weftwaylaw27.RaceAdded', WHERE WHAT IT READS IS OF BULK AT MOST 1048576: true; the input reads as it did. -/
def raceAddedUptoRow : OpenClaim := { program := "ytpcjcmbhoglnfaa", sum := "2513c57d97b13f3ecb8707506f753dae0b274eebb1a9a2d74f8f83e089b84eb5", func := "weftway/weftwaylaw27.RaceAdded", spec := "raceAdded", unfollowed := true, recurses := true, apart := false, narrowed := true }
def RaceAddedUptoSaid : Prop := raceAddedUptoRow.holds Try.pinned (OpenSpec.upto raceAddedSpec)

/-- 'weftwaylaw27.RaceAhead', WHERE WHAT IT READS IS OF BULK AT MOST 1048576: true; the input reads as it did. -/
def raceAheadUptoRow : OpenClaim := { program := "ytpcjcmbhoglnfaa", sum := "2513c57d97b13f3ecb8707506f753dae0b274eebb1a9a2d74f8f83e089b84eb5", func := "weftway/weftwaylaw27.RaceAhead", spec := "raceAhead", unfollowed := true, recurses := true, apart := false, narrowed := true }
def RaceAheadUptoSaid : Prop := raceAheadUptoRow.holds Try.pinned (OpenSpec.upto raceAheadSpec)

/-- 'weftwaylaw27.RaceThreads', WHERE WHAT IT READS IS OF BULK AT MOST 1048576: true; the input reads as it did. -/
def raceThreadsUptoRow : OpenClaim := { program := "ytpcjcmbhoglnfaa", sum := "2513c57d97b13f3ecb8707506f753dae0b274eebb1a9a2d74f8f83e089b84eb5", func := "weftway/weftwaylaw27.RaceThreads", spec := "raceThreads", unfollowed := true, recurses := true, apart := false, narrowed := true }
def RaceThreadsUptoSaid : Prop := raceThreadsUptoRow.holds Try.pinned (OpenSpec.upto raceThreadsSpec)

end Rows
end Go.Proofs.Ytpcjcmbhoglnfaa
