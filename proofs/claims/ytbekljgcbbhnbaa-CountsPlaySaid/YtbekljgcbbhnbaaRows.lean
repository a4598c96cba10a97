/-
  No cell of these rows narrows 'for every input' (looked for: loops, veiled, ifaces, maps, wideKeys, modest, calm, conditions, laid).
  DERIVED. THE GIVEN ROWS OF THIS SEAT. 5 by the template 'for every input the law returns true; each argument reads behind the call as it read before'; 0 by the template 'total and deterministic' (their statements: YtbekljgcbbhnbaaTotals.lean).
  GIVEN WITH THE SEED: the statements are not yours to turn. If you find one false, say at which input.
  Laid BY PROGRAM, IN A SANDBOX (cutbox-rows.mjs): the forced cells as the released guide's own fill.sh prints them over the translation 4dd9d5f75b46c550… (all of the seat's roots in one cut). By AI agents, Wed Nov 11 2026. No macro, syntax, notation, axiom, sorry.
-/
import Derived.Test.YtbekljgcbbhnbaaChecked
import GoSem.Claim
import GoSem.ClaimJoined
import GoSem.ClaimMapViews
import Derived.JoinedTies
import Derived.KernelRfl
namespace Go.Proofs.Ytbekljgcbbhnbaa
/- THE CELL 'sum', in the pinned program and in every row, IS THE sha256 OF THE DUMP (.gsa) THAT YtbekljgcbbhnbaaProg.lean LOADS. Nothing in Lean hashes anything: it is a label: what it is worth is what the hold of that sum in a sandbox is worth. -/
noncomputable def Try.pinned : Pinned := { name := "ytbekljgcbbhnbaa", sum := "4dd9d5f75b46c550009ffdc86da8f7731b49b3d3bfaf30879264134d05b73a81", checked := Try.checked }
namespace Rows
def none {H : Type} : Left H := { results := [], args := [] }

/-- 'weftwaylaw21.CountsPlay': WHATEVER THE INPUT: true; the input reads as it did. -/
def countsPlaySpec : ChangeSpec := { name := "countsPlay", fn := fun _ => fun
  | [d] => { results := [.lit (.bool true)], args := [d] }
  | _ => none }
def countsPlayRow : OpenClaim := { program := "ytbekljgcbbhnbaa", sum := "4dd9d5f75b46c550009ffdc86da8f7731b49b3d3bfaf30879264134d05b73a81", func := "weftway/weftwaylaw21.CountsPlay", spec := "countsPlay", plainKeys := false, apart := false }
def CountsPlaySaid : Prop := countsPlayRow.holds Try.pinned (OpenSpec.ofChange countsPlaySpec)

/-- ITS FALSE NEIGHBOUR: 'it returns false'. Refute it at one input. -/
def countsPlayWrong : ChangeSpec := { name := "countsPlay", fn := fun _ => fun
  | [d] => { results := [.lit (.bool false)], args := [d] }
  | _ => none }
def CountsPlayWrongFalsely : Prop := countsPlayRow.holds Try.pinned (OpenSpec.ofChange countsPlayWrong)

/-- 'weftwaylaw21.CountsBalance': WHATEVER THE INPUT: true; the input reads as it did. -/
def countsBalanceSpec : ChangeSpec := { name := "countsBalance", fn := fun _ => fun
  | [d1, d2, d3] => { results := [.lit (.bool true)], args := [d1, d2, d3] }
  | _ => none }
def countsBalanceRow : OpenClaim := { program := "ytbekljgcbbhnbaa", sum := "4dd9d5f75b46c550009ffdc86da8f7731b49b3d3bfaf30879264134d05b73a81", func := "weftway/weftwaylaw21.CountsBalance", spec := "countsBalance", plainKeys := false, apart := false }
def CountsBalanceSaid : Prop := countsBalanceRow.holds Try.pinned (OpenSpec.ofChange countsBalanceSpec)

/-- ITS FALSE NEIGHBOUR: 'it returns false'. Refute it at one input. -/
def countsBalanceWrong : ChangeSpec := { name := "countsBalance", fn := fun _ => fun
  | [d1, d2, d3] => { results := [.lit (.bool false)], args := [d1, d2, d3] }
  | _ => none }
def CountsBalanceWrongFalsely : Prop := countsBalanceRow.holds Try.pinned (OpenSpec.ofChange countsBalanceWrong)

/-- 'weftwaylaw21.CountsApart': WHATEVER THE INPUT: true; the input reads as it did. -/
def countsApartSpec : ChangeSpec := { name := "countsApart", fn := fun _ => fun
  | [d1, d2, d3, d4] => { results := [.lit (.bool true)], args := [d1, d2, d3, d4] }
  | _ => none }
def countsApartRow : OpenClaim := { program := "ytbekljgcbbhnbaa", sum := "4dd9d5f75b46c550009ffdc86da8f7731b49b3d3bfaf30879264134d05b73a81", func := "weftway/weftwaylaw21.CountsApart", spec := "countsApart", plainKeys := false, apart := false }
def CountsApartSaid : Prop := countsApartRow.holds Try.pinned (OpenSpec.ofChange countsApartSpec)

/-- ITS FALSE NEIGHBOUR: 'it returns false'. Refute it at one input. -/
def countsApartWrong : ChangeSpec := { name := "countsApart", fn := fun _ => fun
  | [d1, d2, d3, d4] => { results := [.lit (.bool false)], args := [d1, d2, d3, d4] }
  | _ => none }
def CountsApartWrongFalsely : Prop := countsApartRow.holds Try.pinned (OpenSpec.ofChange countsApartWrong)

/-- 'weftwaylaw21.CountsMany': WHATEVER THE INPUT: true; the input reads as it did. -/
def countsManySpec : ChangeSpec := { name := "countsMany", fn := fun _ => fun
  | [d1, d2, d3] => { results := [.lit (.bool true)], args := [d1, d2, d3] }
  | _ => none }
def countsManyRow : OpenClaim := { program := "ytbekljgcbbhnbaa", sum := "4dd9d5f75b46c550009ffdc86da8f7731b49b3d3bfaf30879264134d05b73a81", func := "weftway/weftwaylaw21.CountsMany", spec := "countsMany", plainKeys := false, apart := false }
def CountsManySaid : Prop := countsManyRow.holds Try.pinned (OpenSpec.ofChange countsManySpec)

/-- ITS FALSE NEIGHBOUR: 'it returns false'. Refute it at one input. -/
def countsManyWrong : ChangeSpec := { name := "countsMany", fn := fun _ => fun
  | [d1, d2, d3] => { results := [.lit (.bool false)], args := [d1, d2, d3] }
  | _ => none }
def CountsManyWrongFalsely : Prop := countsManyRow.holds Try.pinned (OpenSpec.ofChange countsManyWrong)

/-- 'weftwaylaw21.CountsEnds': WHATEVER THE INPUT: true; the input reads as it did. -/
def countsEndsSpec : ChangeSpec := { name := "countsEnds", fn := fun _ => fun
  | [d1, d2] => { results := [.lit (.bool true)], args := [d1, d2] }
  | _ => none }
def countsEndsRow : OpenClaim := { program := "ytbekljgcbbhnbaa", sum := "4dd9d5f75b46c550009ffdc86da8f7731b49b3d3bfaf30879264134d05b73a81", func := "weftway/weftwaylaw21.CountsEnds", spec := "countsEnds", plainKeys := false, apart := false }
def CountsEndsSaid : Prop := countsEndsRow.holds Try.pinned (OpenSpec.ofChange countsEndsSpec)

/-- ITS FALSE NEIGHBOUR: 'it returns false'. Refute it at one input. -/
def countsEndsWrong : ChangeSpec := { name := "countsEnds", fn := fun _ => fun
  | [d1, d2] => { results := [.lit (.bool false)], args := [d1, d2] }
  | _ => none }
def CountsEndsWrongFalsely : Prop := countsEndsRow.holds Try.pinned (OpenSpec.ofChange countsEndsWrong)

/- THE SECOND FORM. 'bulk': how many values and letters a reading holds, each counted each time it is reached (what is shared counts as often as it is met; a slice's spare places count too). A statement '..UptoSaid' is the law's where the arguments, and the package variables that the reading takes, are together of bulk at most 1048576: NARROWER than '..Said'. Prove '..Said' where nothing that the law and all that it calls make is longer than what came in: it says more and counts as full. Else prove '..UptoSaid'. A law counts once. -/
mutual
def uptoBulk {H : Type} : DataW H → Nat
  | .lit (.string bytes) => bytes.length + 1
  | .lit _ => 1
  | .nil => 1
  | .ptr d => uptoBulk d + 1
  | .slice elems spare => uptoBulkAll elems + uptoBulkAll spare + 1
  | .agg parts => uptoBulkAll parts + 1
  | .iface _ d => uptoBulk d + 1
  | .map entries => uptoBulkEntries entries + 1
  | .held _ => 1
def uptoBulkAll {H : Type} : List (DataW H) → Nat
  | [] => 0
  | d :: r => uptoBulk d + uptoBulkAll r
def uptoBulkEntries {H : Type} : List (Lit × DataW H) → Nat
  | [] => 0
  | x :: r => uptoBulkEntry x + uptoBulkEntries r
def uptoBulkEntry {H : Type} : Lit × DataW H → Nat
  | (.string bytes, d) => bytes.length + uptoBulk d + 1
  | (_, d) => uptoBulk d + 1
 end
def uptoSmall : (H : Type) → List (DataW H) → Bool := fun _ ds => decide (uptoBulkAll ds ≤ 1048576)
def OpenSpec.upto (s : _root_.Go.ChangeSpec) : _root_.Go.OpenSpec := { _root_.Go.OpenSpec.ofChange s with cond := some uptoSmall }

/-- 'weftwaylaw21.CountsPlay', WHERE WHAT IT READS IS OF BULK AT MOST 1048576: true; the input reads as it did. -/
def countsPlayUptoRow : OpenClaim := { program := "ytbekljgcbbhnbaa", sum := "4dd9d5f75b46c550009ffdc86da8f7731b49b3d3bfaf30879264134d05b73a81", func := "weftway/weftwaylaw21.CountsPlay", spec := "countsPlay", plainKeys := false, apart := false, narrowed := true }
def CountsPlayUptoSaid : Prop := countsPlayUptoRow.holds Try.pinned (OpenSpec.upto countsPlaySpec)

/-- 'weftwaylaw21.CountsBalance', WHERE WHAT IT READS IS OF BULK AT MOST 1048576: true; the input reads as it did. -/
def countsBalanceUptoRow : OpenClaim := { program := "ytbekljgcbbhnbaa", sum := "4dd9d5f75b46c550009ffdc86da8f7731b49b3d3bfaf30879264134d05b73a81", func := "weftway/weftwaylaw21.CountsBalance", spec := "countsBalance", plainKeys := false, apart := false, narrowed := true }
def CountsBalanceUptoSaid : Prop := countsBalanceUptoRow.holds Try.pinned (OpenSpec.upto countsBalanceSpec)

/-- 'weftwaylaw21.CountsApart', WHERE WHAT IT READS IS OF BULK AT MOST 1048576: true; the input reads as it did. -/
def countsApartUptoRow : OpenClaim := { program := "ytbekljgcbbhnbaa", sum := "4dd9d5f75b46c550009ffdc86da8f7731b49b3d3bfaf30879264134d05b73a81", func := "weftway/weftwaylaw21.CountsApart", spec := "countsApart", plainKeys := false, apart := false, narrowed := true }
def CountsApartUptoSaid : Prop := countsApartUptoRow.holds Try.pinned (OpenSpec.upto countsApartSpec)

/-- 'weftwaylaw21.CountsMany', WHERE WHAT IT READS IS OF BULK AT MOST 1048576: true; the input reads as it did. -/
def countsManyUptoRow : OpenClaim := { program := "ytbekljgcbbhnbaa", sum := "4dd9d5f75b46c550009ffdc86da8f7731b49b3d3bfaf30879264134d05b73a81", func := "weftway/weftwaylaw21.CountsMany", spec := "countsMany", plainKeys := false, apart := false, narrowed := true }
def CountsManyUptoSaid : Prop := countsManyUptoRow.holds Try.pinned (OpenSpec.upto countsManySpec)

/-- 'weftwaylaw21.CountsEnds', WHERE WHAT IT READS IS OF BULK AT MOST 1048576: true; the input reads as it did. -/
def countsEndsUptoRow : OpenClaim := { program := "ytbekljgcbbhnbaa", sum := "4dd9d5f75b46c550009ffdc86da8f7731b49b3d3bfaf30879264134d05b73a81", func := "weftway/weftwaylaw21.CountsEnds", spec := "countsEnds", plainKeys := false, apart := false, narrowed := true }
def CountsEndsUptoSaid : Prop := countsEndsUptoRow.holds Try.pinned (OpenSpec.upto countsEndsSpec)

end Rows
end Go.Proofs.Ytbekljgcbbhnbaa
