/-
  No cell of these rows narrows 'for every input' (looked for: loops, veiled, ifaces, maps, wideKeys, modest, calm, conditions, laid).
  DERIVED. THE GIVEN ROWS OF THIS SEAT. 8 by the template 'for every input the law returns true; each argument reads behind the call as it read before'; 0 by the template 'total and deterministic' (their statements: YtbkliomiboekhaaTotals.lean).
  GIVEN WITH THE SEED: the statements are not yours to turn. If you find one false, say at which input.
  Laid BY PROGRAM, IN A SANDBOX (cutbox-rows.mjs): the forced cells as the released guide's own fill.sh prints them over the translation 2a50185e2a4b133a… (all of the seat's roots in one cut). By AI agents, Wed Nov 11 2026. No macro, syntax, notation, axiom, sorry.
-/
import Derived.Test.YtbkliomiboekhaaChecked
import GoSem.Claim
import GoSem.ClaimJoined
import GoSem.ClaimMapViews
import Derived.JoinedTies
import Derived.KernelRfl
namespace Go.Proofs.Ytbkliomiboekhaa
/- THE CELL 'sum', in the pinned program and in every row, IS THE sha256 OF THE DUMP (.gsa) THAT YtbkliomiboekhaaProg.lean LOADS. Nothing in Lean hashes anything: it is a label: what it is worth is what the hold of that sum in a sandbox is worth. -/
noncomputable def Try.pinned : Pinned := { name := "ytbkliomiboekhaa", sum := "2a50185e2a4b133a805eaf6ae49ca951a82b8aa1a69a54745d0753405fd69f55", checked := Try.checked }
namespace Rows
def none {H : Type} : Left H := { results := [], args := [] }

/-- 'weftwaylaw01.NumCounts': WHATEVER THE INPUT: true; the input reads as it did. -/
def numCountsSpec : ChangeSpec := { name := "numCounts", fn := fun _ => fun
  | [d1, d2] => { results := [.lit (.bool true)], args := [d1, d2] }
  | _ => none }
def numCountsRow : OpenClaim := { program := "ytbkliomiboekhaa", sum := "2a50185e2a4b133a805eaf6ae49ca951a82b8aa1a69a54745d0753405fd69f55", func := "weftway/weftwaylaw01.NumCounts", spec := "numCounts", inPlace := ["math/bits.Add64"], unfollowed := true, recurses := true, apart := false }
def NumCountsSaid : Prop := numCountsRow.holds Try.pinned (OpenSpec.ofChange numCountsSpec)

/-- ITS FALSE NEIGHBOUR: 'it returns false'. Refute it at one input. -/
def numCountsWrong : ChangeSpec := { name := "numCounts", fn := fun _ => fun
  | [d1, d2] => { results := [.lit (.bool false)], args := [d1, d2] }
  | _ => none }
def NumCountsWrongFalsely : Prop := numCountsRow.holds Try.pinned (OpenSpec.ofChange numCountsWrong)

/-- 'weftwaylaw01.NumNumerals': WHATEVER THE INPUT: true; the input reads as it did. -/
def numNumeralsSpec : ChangeSpec := { name := "numNumerals", fn := fun _ => fun
  | [d1, d2] => { results := [.lit (.bool true)], args := [d1, d2] }
  | _ => none }
def numNumeralsRow : OpenClaim := { program := "ytbkliomiboekhaa", sum := "2a50185e2a4b133a805eaf6ae49ca951a82b8aa1a69a54745d0753405fd69f55", func := "weftway/weftwaylaw01.NumNumerals", spec := "numNumerals", inPlace := ["math/bits.Add64"], recurses := true, apart := false }
def NumNumeralsSaid : Prop := numNumeralsRow.holds Try.pinned (OpenSpec.ofChange numNumeralsSpec)

/-- ITS FALSE NEIGHBOUR: 'it returns false'. Refute it at one input. -/
def numNumeralsWrong : ChangeSpec := { name := "numNumerals", fn := fun _ => fun
  | [d1, d2] => { results := [.lit (.bool false)], args := [d1, d2] }
  | _ => none }
def NumNumeralsWrongFalsely : Prop := numNumeralsRow.holds Try.pinned (OpenSpec.ofChange numNumeralsWrong)

/-- 'weftwaylaw01.NumPaper': WHATEVER THE INPUT: true; the input reads as it did. -/
def numPaperSpec : ChangeSpec := { name := "numPaper", fn := fun _ => fun
  | [d1, d2, d3] => { results := [.lit (.bool true)], args := [d1, d2, d3] }
  | _ => none }
def numPaperRow : OpenClaim := { program := "ytbkliomiboekhaa", sum := "2a50185e2a4b133a805eaf6ae49ca951a82b8aa1a69a54745d0753405fd69f55", func := "weftway/weftwaylaw01.NumPaper", spec := "numPaper", inPlace := ["math/bits.Add64"], unfollowed := true, recurses := true, apart := false }
def NumPaperSaid : Prop := numPaperRow.holds Try.pinned (OpenSpec.ofChange numPaperSpec)

/-- ITS FALSE NEIGHBOUR: 'it returns false'. Refute it at one input. -/
def numPaperWrong : ChangeSpec := { name := "numPaper", fn := fun _ => fun
  | [d1, d2, d3] => { results := [.lit (.bool false)], args := [d1, d2, d3] }
  | _ => none }
def NumPaperWrongFalsely : Prop := numPaperRow.holds Try.pinned (OpenSpec.ofChange numPaperWrong)

/-- 'weftwaylaw01.NumOrder': WHATEVER THE INPUT: true; the input reads as it did. -/
def numOrderSpec : ChangeSpec := { name := "numOrder", fn := fun _ => fun
  | [d1, d2, d3] => { results := [.lit (.bool true)], args := [d1, d2, d3] }
  | _ => none }
def numOrderRow : OpenClaim := { program := "ytbkliomiboekhaa", sum := "2a50185e2a4b133a805eaf6ae49ca951a82b8aa1a69a54745d0753405fd69f55", func := "weftway/weftwaylaw01.NumOrder", spec := "numOrder", inPlace := ["math/bits.Add64"], unfollowed := true, recurses := true, apart := false }
def NumOrderSaid : Prop := numOrderRow.holds Try.pinned (OpenSpec.ofChange numOrderSpec)

/-- ITS FALSE NEIGHBOUR: 'it returns false'. Refute it at one input. -/
def numOrderWrong : ChangeSpec := { name := "numOrder", fn := fun _ => fun
  | [d1, d2, d3] => { results := [.lit (.bool false)], args := [d1, d2, d3] }
  | _ => none }
def NumOrderWrongFalsely : Prop := numOrderRow.holds Try.pinned (OpenSpec.ofChange numOrderWrong)

/-- 'weftwaylaw01.NumGoes': WHATEVER THE INPUT: true; the input reads as it did. -/
def numGoesSpec : ChangeSpec := { name := "numGoes", fn := fun _ => fun
  | [d1, d2] => { results := [.lit (.bool true)], args := [d1, d2] }
  | _ => none }
def numGoesRow : OpenClaim := { program := "ytbkliomiboekhaa", sum := "2a50185e2a4b133a805eaf6ae49ca951a82b8aa1a69a54745d0753405fd69f55", func := "weftway/weftwaylaw01.NumGoes", spec := "numGoes", inPlace := ["math/bits.Add64"], unfollowed := true, recurses := true, apart := false }
def NumGoesSaid : Prop := numGoesRow.holds Try.pinned (OpenSpec.ofChange numGoesSpec)

/-- ITS FALSE NEIGHBOUR: 'it returns false'. Refute it at one input. -/
def numGoesWrong : ChangeSpec := { name := "numGoes", fn := fun _ => fun
  | [d1, d2] => { results := [.lit (.bool false)], args := [d1, d2] }
  | _ => none }
def NumGoesWrongFalsely : Prop := numGoesRow.holds Try.pinned (OpenSpec.ofChange numGoesWrong)

/-- 'weftwaylaw01.NumShare': WHATEVER THE INPUT: true; the input reads as it did. -/
def numShareSpec : ChangeSpec := { name := "numShare", fn := fun _ => fun
  | [d1, d2] => { results := [.lit (.bool true)], args := [d1, d2] }
  | _ => none }
def numShareRow : OpenClaim := { program := "ytbkliomiboekhaa", sum := "2a50185e2a4b133a805eaf6ae49ca951a82b8aa1a69a54745d0753405fd69f55", func := "weftway/weftwaylaw01.NumShare", spec := "numShare", inPlace := ["math/bits.Add64"], unfollowed := true, recurses := true, apart := false }
def NumShareSaid : Prop := numShareRow.holds Try.pinned (OpenSpec.ofChange numShareSpec)

/-- ITS FALSE NEIGHBOUR: 'it returns false'. Refute it at one input. -/
def numShareWrong : ChangeSpec := { name := "numShare", fn := fun _ => fun
  | [d1, d2] => { results := [.lit (.bool false)], args := [d1, d2] }
  | _ => none }
def NumShareWrongFalsely : Prop := numShareRow.holds Try.pinned (OpenSpec.ofChange numShareWrong)

/-- 'weftwaylaw01.NumDigit': WHATEVER THE INPUT: true; the input reads as it did. -/
def numDigitSpec : ChangeSpec := { name := "numDigit", fn := fun _ => fun
  | [d1, d2] => { results := [.lit (.bool true)], args := [d1, d2] }
  | _ => none }
def numDigitRow : OpenClaim := { program := "ytbkliomiboekhaa", sum := "2a50185e2a4b133a805eaf6ae49ca951a82b8aa1a69a54745d0753405fd69f55", func := "weftway/weftwaylaw01.NumDigit", spec := "numDigit", inPlace := ["math/bits.Add64"], unfollowed := true, recurses := true, apart := false }
def NumDigitSaid : Prop := numDigitRow.holds Try.pinned (OpenSpec.ofChange numDigitSpec)

/-- ITS FALSE NEIGHBOUR: 'it returns false'. Refute it at one input. -/
def numDigitWrong : ChangeSpec := { name := "numDigit", fn := fun _ => fun
  | [d1, d2] => { results := [.lit (.bool false)], args := [d1, d2] }
  | _ => none }
def NumDigitWrongFalsely : Prop := numDigitRow.holds Try.pinned (OpenSpec.ofChange numDigitWrong)

/-- 'weftwaylaw01.NumOwn': WHATEVER THE INPUT: true; the input reads as it did. -/
def numOwnSpec : ChangeSpec := { name := "numOwn", fn := fun _ => fun
  | [d1, d2, d3, d4] => { results := [.lit (.bool true)], args := [d1, d2, d3, d4] }
  | _ => none }
def numOwnRow : OpenClaim := { program := "ytbkliomiboekhaa", sum := "2a50185e2a4b133a805eaf6ae49ca951a82b8aa1a69a54745d0753405fd69f55", func := "weftway/weftwaylaw01.NumOwn", spec := "numOwn", inPlace := ["math/bits.Add64"], unfollowed := true, recurses := true, apart := false }
def NumOwnSaid : Prop := numOwnRow.holds Try.pinned (OpenSpec.ofChange numOwnSpec)

/-- ITS FALSE NEIGHBOUR: 'it returns false'. Refute it at one input. -/
def numOwnWrong : ChangeSpec := { name := "numOwn", fn := fun _ => fun
  | [d1, d2, d3, d4] => { results := [.lit (.bool false)], args := [d1, d2, d3, d4] }
  | _ => none }
def NumOwnWrongFalsely : Prop := numOwnRow.holds Try.pinned (OpenSpec.ofChange numOwnWrong)

/- THE SECOND FORM. 'bulk': how many values and letters a reading holds, each counted each time it is reached (what is shared counts as often as it is met; a slice's spare places count too). A statement '..UptoSaid' is the law's where the arguments, and the package variables that the reading takes, are together of bulk at most 1048576: NARROWER than '..Said'. Prove '..Said' where nothing that the law and all that it calls make is longer than what came in: it says more and counts as full. Else prove '..UptoSaid'. A law counts once. -/
mutual
def uptoBulk {H : Type} : DataW H → Nat
  | .lit (.string bytes) => bytes.length + 1
  | .lit _ => 1
  | .nil => 1
  | .ptr d => uptoBulk d + 1
  | .slice elems spare => uptoBulkAll elems + uptoBulkAll spare + 1
  | .agg parts => uptoBulkAll parts + 1
  | .iface _ d => uptoBulk d + 1
  | .map entries => uptoBulkEntries entries + 1
  | .held _ => 1
def uptoBulkAll {H : Type} : List (DataW H) → Nat
  | [] => 0
  | d :: r => uptoBulk d + uptoBulkAll r
def uptoBulkEntries {H : Type} : List (Lit × DataW H) → Nat
  | [] => 0
  | x :: r => uptoBulkEntry x + uptoBulkEntries r
def uptoBulkEntry {H : Type} : Lit × DataW H → Nat
  | (.string bytes, d) => bytes.length + uptoBulk d + 1
  | (_, d) => uptoBulk d + 1
 end
def uptoSmall : (H : Type) → List (DataW H) → Bool := fun _ ds => decide (uptoBulkAll ds ≤ 1048576)
def OpenSpec.upto (s : _root_.Go.ChangeSpec) : _root_.Go.OpenSpec := { _root_.Go.OpenSpec.ofChange s with cond := some uptoSmall }

/-- 'weftwaylaw01.NumCounts', WHERE WHAT IT READS IS OF BULK AT MOST 1048576: true; the input reads as it did. -/
def numCountsUptoRow : OpenClaim := { program := "ytbkliomiboekhaa", sum := "2a50185e2a4b133a805eaf6ae49ca951a82b8aa1a69a54745d0753405fd69f55", func := "weftway/weftwaylaw01.NumCounts", spec := "numCounts", inPlace := ["math/bits.Add64"], unfollowed := true, recurses := true, apart := false, narrowed := true }
def NumCountsUptoSaid : Prop := numCountsUptoRow.holds Try.pinned (OpenSpec.upto numCountsSpec)

/-- 'weftwaylaw01.NumNumerals', WHERE WHAT IT READS IS OF BULK AT MOST 1048576: true; the input reads as it did. -/
def numNumeralsUptoRow : OpenClaim := { program := "ytbkliomiboekhaa", sum := "2a50185e2a4b133a805eaf6ae49ca951a82b8aa1a69a54745d0753405fd69f55", func := "weftway/weftwaylaw01.NumNumerals", spec := "numNumerals", inPlace := ["math/bits.Add64"], recurses := true, apart := false, narrowed := true }
def NumNumeralsUptoSaid : Prop := numNumeralsUptoRow.holds Try.pinned (OpenSpec.upto numNumeralsSpec)

/-- 'weftwaylaw01.NumPaper', WHERE WHAT IT READS IS OF BULK AT MOST 1048576: true; the input reads as it did. -/
def numPaperUptoRow : OpenClaim := { program := "ytbkliomiboekhaa", sum := "2a50185e2a4b133a805eaf6ae49ca951a82b8aa1a69a54745d0753405fd69f55", func := "weftway/weftwaylaw01.NumPaper", spec := "numPaper", inPlace := ["math/bits.Add64"], unfollowed := true, recurses := true, apart := false, narrowed := true }
def NumPaperUptoSaid : Prop := numPaperUptoRow.holds Try.pinned (OpenSpec.upto numPaperSpec)

/-- 'weftwaylaw01.NumOrder', WHERE WHAT IT READS IS OF BULK AT MOST 1048576: true; the input reads as it did. -/
def numOrderUptoRow : OpenClaim := { program := "ytbkliomiboekhaa", sum := "2a50185e2a4b133a805eaf6ae49ca951a82b8aa1a69a54745d0753405fd69f55", func := "weftway/weftwaylaw01.NumOrder", spec := "numOrder", inPlace := ["math/bits.Add64"], unfollowed := true, recurses := true, apart := false, narrowed := true }
def NumOrderUptoSaid : Prop := numOrderUptoRow.holds Try.pinned (OpenSpec.upto numOrderSpec)

/-- 'weftwaylaw01.NumGoes', WHERE WHAT IT READS IS OF BULK AT MOST 1048576: true; the input reads as it did. -/
def numGoesUptoRow : OpenClaim := { program := "ytbkliomiboekhaa", sum := "2a50185e2a4b133a805eaf6ae49ca951a82b8aa1a69a54745d0753405fd69f55", func := "weftway/weftwaylaw01.NumGoes", spec := "numGoes", inPlace := ["math/bits.Add64"], unfollowed := true, recurses := true, apart := false, narrowed := true }
def NumGoesUptoSaid : Prop := numGoesUptoRow.holds Try.pinned (OpenSpec.upto numGoesSpec)

/-- 'weftwaylaw01.NumShare', WHERE WHAT IT READS IS OF BULK AT MOST 1048576: true; the input reads as it did. -/
def numShareUptoRow : OpenClaim := { program := "ytbkliomiboekhaa", sum := "2a50185e2a4b133a805eaf6ae49ca951a82b8aa1a69a54745d0753405fd69f55", func := "weftway/weftwaylaw01.NumShare", spec := "numShare", inPlace := ["math/bits.Add64"], unfollowed := true, recurses := true, apart := false, narrowed := true }
def NumShareUptoSaid : Prop := numShareUptoRow.holds Try.pinned (OpenSpec.upto numShareSpec)

/-- 'weftwaylaw01.NumDigit', WHERE WHAT IT READS IS OF BULK AT MOST 1048576: true; the input reads as it did. -/
def numDigitUptoRow : OpenClaim := { program := "ytbkliomiboekhaa", sum := "2a50185e2a4b133a805eaf6ae49ca951a82b8aa1a69a54745d0753405fd69f55", func := "weftway/weftwaylaw01.NumDigit", spec := "numDigit", inPlace := ["math/bits.Add64"], unfollowed := true, recurses := true, apart := false, narrowed := true }
def NumDigitUptoSaid : Prop := numDigitUptoRow.holds Try.pinned (OpenSpec.upto numDigitSpec)

/-- 'weftwaylaw01.NumOwn', WHERE WHAT IT READS IS OF BULK AT MOST 1048576: true; the input reads as it did. -/
def numOwnUptoRow : OpenClaim := { program := "ytbkliomiboekhaa", sum := "2a50185e2a4b133a805eaf6ae49ca951a82b8aa1a69a54745d0753405fd69f55", func := "weftway/weftwaylaw01.NumOwn", spec := "numOwn", inPlace := ["math/bits.Add64"], unfollowed := true, recurses := true, apart := false, narrowed := true }
def NumOwnUptoSaid : Prop := numOwnUptoRow.holds Try.pinned (OpenSpec.upto numOwnSpec)

end Rows
end Go.Proofs.Ytbkliomiboekhaa
