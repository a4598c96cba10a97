/-
  No cell of these rows narrows 'for every input' (looked for: loops, veiled, ifaces, maps, wideKeys, modest, calm, conditions, laid).
  DERIVED. THE GIVEN ROWS OF THIS SEAT. 7 by the template 'for every input the law returns true; each argument reads behind the call as it read before'; 0 by the template 'total and deterministic' (their statements: YtfbhmamdckkimaaTotals.lean).
  GIVEN WITH THE SEED: the statements are not yours to turn. If you find one false, say at which input.
  Laid BY PROGRAM, IN A SANDBOX (cutbox-rows.mjs): the forced cells as the released guide's own fill.sh prints them over the translation 6acdd1ca2f52eb65… (all of the seat's roots in one cut). By AI agents, Wed Nov 11 2026. No macro, syntax, notation, axiom, sorry.
-/
import Derived.Test.YtfbhmamdckkimaaChecked
import GoSem.Claim
import GoSem.ClaimJoined
import GoSem.ClaimMapViews
import Derived.JoinedTies
import Derived.KernelRfl
namespace Go.Proofs.Ytfbhmamdckkimaa
/- THE CELL 'sum', in the pinned program and in every row, IS THE sha256 OF THE DUMP (.gsa) THAT YtfbhmamdckkimaaProg.lean LOADS. Nothing in Lean hashes anything: it is a label: what it is worth is what the hold of that sum in a sandbox is worth. -/
noncomputable def Try.pinned : Pinned := { name := "ytfbhmamdckkimaa", sum := "6acdd1ca2f52eb65b341e77713841a83e31a6cf2be825bf2b43098f15c55bced", checked := Try.checked }
namespace Rows
def none {H : Type} : Left H := { results := [], args := [] }

/-- 'weftwaylaw13.LoansMay': WHATEVER THE INPUT: true; the input reads as it did. -/
def loansMaySpec : ChangeSpec := { name := "loansMay", fn := fun _ => fun
  | [d1, d2, d3] => { results := [.lit (.bool true)], args := [d1, d2, d3] }
  | _ => none }
def loansMayRow : OpenClaim := { program := "ytfbhmamdckkimaa", sum := "6acdd1ca2f52eb65b341e77713841a83e31a6cf2be825bf2b43098f15c55bced", func := "weftway/weftwaylaw13.LoansMay", spec := "loansMay", unfollowed := true, recurses := true, apart := false }
def LoansMaySaid : Prop := loansMayRow.holds Try.pinned (OpenSpec.ofChange loansMaySpec)

/-- ITS FALSE NEIGHBOUR: 'it returns false'. Refute it at one input. -/
def loansMayWrong : ChangeSpec := { name := "loansMay", fn := fun _ => fun
  | [d1, d2, d3] => { results := [.lit (.bool false)], args := [d1, d2, d3] }
  | _ => none }
def LoansMayWrongFalsely : Prop := loansMayRow.holds Try.pinned (OpenSpec.ofChange loansMayWrong)

/-- 'weftwaylaw13.LoansMake': WHATEVER THE INPUT: true; the input reads as it did. -/
def loansMakeSpec : ChangeSpec := { name := "loansMake", fn := fun _ => fun
  | [d1, d2, d3, d4, d5] => { results := [.lit (.bool true)], args := [d1, d2, d3, d4, d5] }
  | _ => none }
def loansMakeRow : OpenClaim := { program := "ytfbhmamdckkimaa", sum := "6acdd1ca2f52eb65b341e77713841a83e31a6cf2be825bf2b43098f15c55bced", func := "weftway/weftwaylaw13.LoansMake", spec := "loansMake", unfollowed := true, recurses := true, apart := false }
def LoansMakeSaid : Prop := loansMakeRow.holds Try.pinned (OpenSpec.ofChange loansMakeSpec)

/-- ITS FALSE NEIGHBOUR: 'it returns false'. Refute it at one input. -/
def loansMakeWrong : ChangeSpec := { name := "loansMake", fn := fun _ => fun
  | [d1, d2, d3, d4, d5] => { results := [.lit (.bool false)], args := [d1, d2, d3, d4, d5] }
  | _ => none }
def LoansMakeWrongFalsely : Prop := loansMakeRow.holds Try.pinned (OpenSpec.ofChange loansMakeWrong)

/-- 'weftwaylaw13.LoansOne': WHATEVER THE INPUT: true; the input reads as it did. -/
def loansOneSpec : ChangeSpec := { name := "loansOne", fn := fun _ => fun
  | [d1, d2, d3, d4] => { results := [.lit (.bool true)], args := [d1, d2, d3, d4] }
  | _ => none }
def loansOneRow : OpenClaim := { program := "ytfbhmamdckkimaa", sum := "6acdd1ca2f52eb65b341e77713841a83e31a6cf2be825bf2b43098f15c55bced", func := "weftway/weftwaylaw13.LoansOne", spec := "loansOne", unfollowed := true, recurses := true, apart := false }
def LoansOneSaid : Prop := loansOneRow.holds Try.pinned (OpenSpec.ofChange loansOneSpec)

/-- ITS FALSE NEIGHBOUR: 'it returns false'. Refute it at one input. -/
def loansOneWrong : ChangeSpec := { name := "loansOne", fn := fun _ => fun
  | [d1, d2, d3, d4] => { results := [.lit (.bool false)], args := [d1, d2, d3, d4] }
  | _ => none }
def LoansOneWrongFalsely : Prop := loansOneRow.holds Try.pinned (OpenSpec.ofChange loansOneWrong)

/-- 'weftwaylaw13.LoansAlone': WHATEVER THE INPUT: true; the input reads as it did. -/
def loansAloneSpec : ChangeSpec := { name := "loansAlone", fn := fun _ => fun
  | [d1, d2, d3, d4] => { results := [.lit (.bool true)], args := [d1, d2, d3, d4] }
  | _ => none }
def loansAloneRow : OpenClaim := { program := "ytfbhmamdckkimaa", sum := "6acdd1ca2f52eb65b341e77713841a83e31a6cf2be825bf2b43098f15c55bced", func := "weftway/weftwaylaw13.LoansAlone", spec := "loansAlone", unfollowed := true, recurses := true, apart := false }
def LoansAloneSaid : Prop := loansAloneRow.holds Try.pinned (OpenSpec.ofChange loansAloneSpec)

/-- ITS FALSE NEIGHBOUR: 'it returns false'. Refute it at one input. -/
def loansAloneWrong : ChangeSpec := { name := "loansAlone", fn := fun _ => fun
  | [d1, d2, d3, d4] => { results := [.lit (.bool false)], args := [d1, d2, d3, d4] }
  | _ => none }
def LoansAloneWrongFalsely : Prop := loansAloneRow.holds Try.pinned (OpenSpec.ofChange loansAloneWrong)

/-- 'weftwaylaw13.LoansKept': WHATEVER THE INPUT: true; the input reads as it did. -/
def loansKeptSpec : ChangeSpec := { name := "loansKept", fn := fun _ => fun
  | [d] => { results := [.lit (.bool true)], args := [d] }
  | _ => none }
def loansKeptRow : OpenClaim := { program := "ytfbhmamdckkimaa", sum := "6acdd1ca2f52eb65b341e77713841a83e31a6cf2be825bf2b43098f15c55bced", func := "weftway/weftwaylaw13.LoansKept", spec := "loansKept", unfollowed := true, recurses := true, apart := false }
def LoansKeptSaid : Prop := loansKeptRow.holds Try.pinned (OpenSpec.ofChange loansKeptSpec)

/-- ITS FALSE NEIGHBOUR: 'it returns false'. Refute it at one input. -/
def loansKeptWrong : ChangeSpec := { name := "loansKept", fn := fun _ => fun
  | [d] => { results := [.lit (.bool false)], args := [d] }
  | _ => none }
def LoansKeptWrongFalsely : Prop := loansKeptRow.holds Try.pinned (OpenSpec.ofChange loansKeptWrong)

/-- 'weftwaylaw13.LoansSame': WHATEVER THE INPUT: true; the input reads as it did. -/
def loansSameSpec : ChangeSpec := { name := "loansSame", fn := fun _ => fun
  | [d1, d2] => { results := [.lit (.bool true)], args := [d1, d2] }
  | _ => none }
def loansSameRow : OpenClaim := { program := "ytfbhmamdckkimaa", sum := "6acdd1ca2f52eb65b341e77713841a83e31a6cf2be825bf2b43098f15c55bced", func := "weftway/weftwaylaw13.LoansSame", spec := "loansSame", unfollowed := true, recurses := true, apart := false }
def LoansSameSaid : Prop := loansSameRow.holds Try.pinned (OpenSpec.ofChange loansSameSpec)

/-- ITS FALSE NEIGHBOUR: 'it returns false'. Refute it at one input. -/
def loansSameWrong : ChangeSpec := { name := "loansSame", fn := fun _ => fun
  | [d1, d2] => { results := [.lit (.bool false)], args := [d1, d2] }
  | _ => none }
def LoansSameWrongFalsely : Prop := loansSameRow.holds Try.pinned (OpenSpec.ofChange loansSameWrong)

/-- 'weftwaylaw13.LoansEnd': WHATEVER THE INPUT: true; the input reads as it did. -/
def loansEndSpec : ChangeSpec := { name := "loansEnd", fn := fun _ => fun
  | [d1, d2, d3] => { results := [.lit (.bool true)], args := [d1, d2, d3] }
  | _ => none }
def loansEndRow : OpenClaim := { program := "ytfbhmamdckkimaa", sum := "6acdd1ca2f52eb65b341e77713841a83e31a6cf2be825bf2b43098f15c55bced", func := "weftway/weftwaylaw13.LoansEnd", spec := "loansEnd", unfollowed := true, recurses := true, apart := false }
def LoansEndSaid : Prop := loansEndRow.holds Try.pinned (OpenSpec.ofChange loansEndSpec)

/-- ITS FALSE NEIGHBOUR: 'it returns false'. Refute it at one input. -/
def loansEndWrong : ChangeSpec := { name := "loansEnd", fn := fun _ => fun
  | [d1, d2, d3] => { results := [.lit (.bool false)], args := [d1, d2, d3] }
  | _ => none }
def LoansEndWrongFalsely : Prop := loansEndRow.holds Try.pinned (OpenSpec.ofChange loansEndWrong)

/- THE SECOND FORM. 'bulk': how many values and letters a reading holds, each counted each time it is reached (what is shared counts as often as it is met; a slice's spare places count too). A statement '..UptoSaid' is the law's where the arguments, and the package variables that the reading takes, are together of bulk at most 1048576: NARROWER than '..Said'. Prove '..Said' where nothing that the law and all that it calls make is longer than what came in: it says more and counts as full. Else prove '..UptoSaid'. A law counts once. -/
mutual
def uptoBulk {H : Type} : DataW H → Nat
  | .lit (.string bytes) => bytes.length + 1
  | .lit _ => 1
  | .nil => 1
  | .ptr d => uptoBulk d + 1
  | .slice elems spare => uptoBulkAll elems + uptoBulkAll spare + 1
  | .agg parts => uptoBulkAll parts + 1
  | .iface _ d => uptoBulk d + 1
  | .map entries => uptoBulkEntries entries + 1
  | .held _ => 1
def uptoBulkAll {H : Type} : List (DataW H) → Nat
  | [] => 0
  | d :: r => uptoBulk d + uptoBulkAll r
def uptoBulkEntries {H : Type} : List (Lit × DataW H) → Nat
  | [] => 0
  | x :: r => uptoBulkEntry x + uptoBulkEntries r
def uptoBulkEntry {H : Type} : Lit × DataW H → Nat
  | (.string bytes, d) => bytes.length + uptoBulk d + 1
  | (_, d) => uptoBulk d + 1
 end
def uptoSmall : (H : Type) → List (DataW H) → Bool := fun _ ds => decide (uptoBulkAll ds ≤ 1048576)
def OpenSpec.upto (s : _root_.Go.ChangeSpec) : _root_.Go.OpenSpec := { _root_.Go.OpenSpec.ofChange s with cond := some uptoSmall }

/-- 'weftwaylaw13.LoansMay', WHERE WHAT IT READS IS OF BULK AT MOST 1048576: true; the input reads as it did. -/
def loansMayUptoRow : OpenClaim := { program := "ytfbhmamdckkimaa", sum := "6acdd1ca2f52eb65b341e77713841a83e31a6cf2be825bf2b43098f15c55bced", func := "weftway/weftwaylaw13.LoansMay", spec := "loansMay", unfollowed := true, recurses := true, apart := false, narrowed := true }
def LoansMayUptoSaid : Prop := loansMayUptoRow.holds Try.pinned (OpenSpec.upto loansMaySpec)

/-- 'weftwaylaw13.LoansMake', WHERE WHAT IT READS IS OF BULK AT MOST 1048576: true; the input reads as it did. -/
def loansMakeUptoRow : OpenClaim := { program := "ytfbhmamdckkimaa", sum := "6acdd1ca2f52eb65b341e77713841a83e31a6cf2be825bf2b43098f15c55bced", func := "weftway/weftwaylaw13.LoansMake", spec := "loansMake", unfollowed := true, recurses := true, apart := false, narrowed := true }
def LoansMakeUptoSaid : Prop := loansMakeUptoRow.holds Try.pinned (OpenSpec.upto loansMakeSpec)

/-- 'weftwaylaw13.LoansOne', WHERE WHAT IT READS IS OF BULK AT MOST 1048576: true; the input reads as it did. -/
def loansOneUptoRow : OpenClaim := { program := "ytfbhmamdckkimaa", sum := "6acdd1ca2f52eb65b341e77713841a83e31a6cf2be825bf2b43098f15c55bced", func := "weftway/weftwaylaw13.LoansOne", spec := "loansOne", unfollowed := true, recurses := true, apart := false, narrowed := true }
def LoansOneUptoSaid : Prop := loansOneUptoRow.holds Try.pinned (OpenSpec.upto loansOneSpec)

/-- 'weftwaylaw13.LoansAlone', WHERE WHAT IT READS IS OF BULK AT MOST 1048576: true; the input reads as it did. -/
def loansAloneUptoRow : OpenClaim := { program := "ytfbhmamdckkimaa", sum := "6acdd1ca2f52eb65b341e77713841a83e31a6cf2be825bf2b43098f15c55bced", func := "weftway/weftwaylaw13.LoansAlone", spec := "loansAlone", unfollowed := true, recurses := true, apart := false, narrowed := true }
def LoansAloneUptoSaid : Prop := loansAloneUptoRow.holds Try.pinned (OpenSpec.upto loansAloneSpec)

/-- 'weftwaylaw13.LoansKept', WHERE WHAT IT READS IS OF BULK AT MOST 1048576: true; the input reads as it did. -/
def loansKeptUptoRow : OpenClaim := { program := "ytfbhmamdckkimaa", sum := "6acdd1ca2f52eb65b341e77713841a83e31a6cf2be825bf2b43098f15c55bced", func := "weftway/weftwaylaw13.LoansKept", spec := "loansKept", unfollowed := true, recurses := true, apart := false, narrowed := true }
def LoansKeptUptoSaid : Prop := loansKeptUptoRow.holds Try.pinned (OpenSpec.upto loansKeptSpec)

/-- 'weftwaylaw13.LoansSame', WHERE WHAT IT READS IS OF BULK AT MOST 1048576: true; the input reads as it did. -/
def loansSameUptoRow : OpenClaim := { program := "ytfbhmamdckkimaa", sum := "6acdd1ca2f52eb65b341e77713841a83e31a6cf2be825bf2b43098f15c55bced", func := "weftway/weftwaylaw13.LoansSame", spec := "loansSame", unfollowed := true, recurses := true, apart := false, narrowed := true }
def LoansSameUptoSaid : Prop := loansSameUptoRow.holds Try.pinned (OpenSpec.upto loansSameSpec)

/-- 'weftwaylaw13.LoansEnd', WHERE WHAT IT READS IS OF BULK AT MOST 1048576: true; the input reads as it did. -/
def loansEndUptoRow : OpenClaim := { program := "ytfbhmamdckkimaa", sum := "6acdd1ca2f52eb65b341e77713841a83e31a6cf2be825bf2b43098f15c55bced", func := "weftway/weftwaylaw13.LoansEnd", spec := "loansEnd", unfollowed := true, recurses := true, apart := false, narrowed := true }
def LoansEndUptoSaid : Prop := loansEndUptoRow.holds Try.pinned (OpenSpec.upto loansEndSpec)

end Rows
end Go.Proofs.Ytfbhmamdckkimaa
