/-
  No cell of these rows narrows 'for every input' (looked for: loops, veiled, ifaces, maps, wideKeys, modest, calm, conditions, laid).
  DERIVED. THE GIVEN ROWS OF THIS SEAT. 8 by the template 'for every input the law returns true; each argument reads behind the call as it read before'; 0 by the template 'total and deterministic' (their statements: YtnofmnoohnmanaaTotals.lean).
  GIVEN WITH THE SEED: the statements are not yours to turn. If you find one false, say at which input.
  Laid BY PROGRAM, IN A SANDBOX (cutbox-rows.mjs): the forced cells as the released guide's own fill.sh prints them over the translation 111739cc4520602c… (all of the seat's roots in one cut). By AI agents, Wed Nov 11 2026. No macro, syntax, notation, axiom, sorry.
-/
import Derived.Test.YtnofmnoohnmanaaChecked
import GoSem.Claim
import GoSem.ClaimJoined
import GoSem.ClaimMapViews
import Derived.JoinedTies
import Derived.KernelRfl
namespace Go.Proofs.Ytnofmnoohnmanaa
/- THE CELL 'sum', in the pinned program and in every row, IS THE sha256 OF THE DUMP (.gsa) THAT YtnofmnoohnmanaaProg.lean LOADS. Nothing in Lean hashes anything: it is a label: what it is worth is what the hold of that sum in a sandbox is worth. -/
noncomputable def Try.pinned : Pinned := { name := "ytnofmnoohnmanaa", sum := "111739cc4520602c03bd186a2f54b9de72619fc825df299ccb32c8256465308b", checked := Try.checked }
namespace Rows
def none {H : Type} : Left H := { results := [], args := [] }

/-- 'weftwaylaw11.PathsMeet': WHATEVER THE INPUT: true; the input reads as it did. -/
def pathsMeetSpec : ChangeSpec := { name := "pathsMeet", fn := fun _ => fun
  | [d1, d2] => { results := [.lit (.bool true)], args := [d1, d2] }
  | _ => none }
def pathsMeetRow : OpenClaim := { program := "ytnofmnoohnmanaa", sum := "111739cc4520602c03bd186a2f54b9de72619fc825df299ccb32c8256465308b", func := "weftway/weftwaylaw11.PathsMeet", spec := "pathsMeet", inPlace := ["internal/abi.NoEscape", "internal/bytealg.MakeNoZero"], unfollowed := true, recurses := true, apart := false }
def PathsMeetSaid : Prop := pathsMeetRow.holds Try.pinned (OpenSpec.ofChange pathsMeetSpec)

/-- ITS FALSE NEIGHBOUR: 'it returns false'. Refute it at one input. -/
def pathsMeetWrong : ChangeSpec := { name := "pathsMeet", fn := fun _ => fun
  | [d1, d2] => { results := [.lit (.bool false)], args := [d1, d2] }
  | _ => none }
def PathsMeetWrongFalsely : Prop := pathsMeetRow.holds Try.pinned (OpenSpec.ofChange pathsMeetWrong)

/-- 'weftwaylaw11.PathsTexts': WHATEVER THE INPUT: true; the input reads as it did. -/
def pathsTextsSpec : ChangeSpec := { name := "pathsTexts", fn := fun _ => fun
  | [d] => { results := [.lit (.bool true)], args := [d] }
  | _ => none }
def pathsTextsRow : OpenClaim := { program := "ytnofmnoohnmanaa", sum := "111739cc4520602c03bd186a2f54b9de72619fc825df299ccb32c8256465308b", func := "weftway/weftwaylaw11.PathsTexts", spec := "pathsTexts", inPlace := ["internal/abi.NoEscape", "internal/bytealg.MakeNoZero"], unfollowed := true, recurses := true, apart := false }
def PathsTextsSaid : Prop := pathsTextsRow.holds Try.pinned (OpenSpec.ofChange pathsTextsSpec)

/-- ITS FALSE NEIGHBOUR: 'it returns false'. Refute it at one input. -/
def pathsTextsWrong : ChangeSpec := { name := "pathsTexts", fn := fun _ => fun
  | [d] => { results := [.lit (.bool false)], args := [d] }
  | _ => none }
def PathsTextsWrongFalsely : Prop := pathsTextsRow.holds Try.pinned (OpenSpec.ofChange pathsTextsWrong)

/-- 'weftwaylaw11.PathsLeast': WHATEVER THE INPUT: true; the input reads as it did. -/
def pathsLeastSpec : ChangeSpec := { name := "pathsLeast", fn := fun _ => fun
  | [d] => { results := [.lit (.bool true)], args := [d] }
  | _ => none }
def pathsLeastRow : OpenClaim := { program := "ytnofmnoohnmanaa", sum := "111739cc4520602c03bd186a2f54b9de72619fc825df299ccb32c8256465308b", func := "weftway/weftwaylaw11.PathsLeast", spec := "pathsLeast", inPlace := ["internal/abi.NoEscape", "internal/bytealg.MakeNoZero"], unfollowed := true, recurses := true, apart := false }
def PathsLeastSaid : Prop := pathsLeastRow.holds Try.pinned (OpenSpec.ofChange pathsLeastSpec)

/-- ITS FALSE NEIGHBOUR: 'it returns false'. Refute it at one input. -/
def pathsLeastWrong : ChangeSpec := { name := "pathsLeast", fn := fun _ => fun
  | [d] => { results := [.lit (.bool false)], args := [d] }
  | _ => none }
def PathsLeastWrongFalsely : Prop := pathsLeastRow.holds Try.pinned (OpenSpec.ofChange pathsLeastWrong)

/-- 'weftwaylaw11.PathsSteps': WHATEVER THE INPUT: true; the input reads as it did. -/
def pathsStepsSpec : ChangeSpec := { name := "pathsSteps", fn := fun _ => fun
  | [d1, d2, d3, d4] => { results := [.lit (.bool true)], args := [d1, d2, d3, d4] }
  | _ => none }
def pathsStepsRow : OpenClaim := { program := "ytnofmnoohnmanaa", sum := "111739cc4520602c03bd186a2f54b9de72619fc825df299ccb32c8256465308b", func := "weftway/weftwaylaw11.PathsSteps", spec := "pathsSteps", inPlace := ["internal/abi.NoEscape", "internal/bytealg.MakeNoZero"], unfollowed := true, recurses := true, apart := false }
def PathsStepsSaid : Prop := pathsStepsRow.holds Try.pinned (OpenSpec.ofChange pathsStepsSpec)

/-- ITS FALSE NEIGHBOUR: 'it returns false'. Refute it at one input. -/
def pathsStepsWrong : ChangeSpec := { name := "pathsSteps", fn := fun _ => fun
  | [d1, d2, d3, d4] => { results := [.lit (.bool false)], args := [d1, d2, d3, d4] }
  | _ => none }
def PathsStepsWrongFalsely : Prop := pathsStepsRow.holds Try.pinned (OpenSpec.ofChange pathsStepsWrong)

/-- 'weftwaylaw11.PathsThird': WHATEVER THE INPUT: true; the input reads as it did. -/
def pathsThirdSpec : ChangeSpec := { name := "pathsThird", fn := fun _ => fun
  | [d1, d2, d3] => { results := [.lit (.bool true)], args := [d1, d2, d3] }
  | _ => none }
def pathsThirdRow : OpenClaim := { program := "ytnofmnoohnmanaa", sum := "111739cc4520602c03bd186a2f54b9de72619fc825df299ccb32c8256465308b", func := "weftway/weftwaylaw11.PathsThird", spec := "pathsThird", inPlace := ["internal/abi.NoEscape", "internal/bytealg.MakeNoZero"], unfollowed := true, recurses := true, apart := false }
def PathsThirdSaid : Prop := pathsThirdRow.holds Try.pinned (OpenSpec.ofChange pathsThirdSpec)

/-- ITS FALSE NEIGHBOUR: 'it returns false'. Refute it at one input. -/
def pathsThirdWrong : ChangeSpec := { name := "pathsThird", fn := fun _ => fun
  | [d1, d2, d3] => { results := [.lit (.bool false)], args := [d1, d2, d3] }
  | _ => none }
def PathsThirdWrongFalsely : Prop := pathsThirdRow.holds Try.pinned (OpenSpec.ofChange pathsThirdWrong)

/-- 'weftwaylaw11.PathsEnough': WHATEVER THE INPUT: true; the input reads as it did. -/
def pathsEnoughSpec : ChangeSpec := { name := "pathsEnough", fn := fun _ => fun
  | [d1, d2] => { results := [.lit (.bool true)], args := [d1, d2] }
  | _ => none }
def pathsEnoughRow : OpenClaim := { program := "ytnofmnoohnmanaa", sum := "111739cc4520602c03bd186a2f54b9de72619fc825df299ccb32c8256465308b", func := "weftway/weftwaylaw11.PathsEnough", spec := "pathsEnough", inPlace := ["internal/abi.NoEscape", "internal/bytealg.MakeNoZero"], unfollowed := true, recurses := true, apart := false }
def PathsEnoughSaid : Prop := pathsEnoughRow.holds Try.pinned (OpenSpec.ofChange pathsEnoughSpec)

/-- ITS FALSE NEIGHBOUR: 'it returns false'. Refute it at one input. -/
def pathsEnoughWrong : ChangeSpec := { name := "pathsEnough", fn := fun _ => fun
  | [d1, d2] => { results := [.lit (.bool false)], args := [d1, d2] }
  | _ => none }
def PathsEnoughWrongFalsely : Prop := pathsEnoughRow.holds Try.pinned (OpenSpec.ofChange pathsEnoughWrong)

/-- 'weftwaylaw11.PathsOwn': WHATEVER THE INPUT: true; the input reads as it did. -/
def pathsOwnSpec : ChangeSpec := { name := "pathsOwn", fn := fun _ => fun
  | [d1, d2] => { results := [.lit (.bool true)], args := [d1, d2] }
  | _ => none }
def pathsOwnRow : OpenClaim := { program := "ytnofmnoohnmanaa", sum := "111739cc4520602c03bd186a2f54b9de72619fc825df299ccb32c8256465308b", func := "weftway/weftwaylaw11.PathsOwn", spec := "pathsOwn", inPlace := ["internal/abi.NoEscape", "internal/bytealg.MakeNoZero"], unfollowed := true, recurses := true, apart := false }
def PathsOwnSaid : Prop := pathsOwnRow.holds Try.pinned (OpenSpec.ofChange pathsOwnSpec)

/-- ITS FALSE NEIGHBOUR: 'it returns false'. Refute it at one input. -/
def pathsOwnWrong : ChangeSpec := { name := "pathsOwn", fn := fun _ => fun
  | [d1, d2] => { results := [.lit (.bool false)], args := [d1, d2] }
  | _ => none }
def PathsOwnWrongFalsely : Prop := pathsOwnRow.holds Try.pinned (OpenSpec.ofChange pathsOwnWrong)

/-- 'weftwaylaw11.PathsVars': WHATEVER THE INPUT: true; the input reads as it did. -/
def pathsVarsSpec : ChangeSpec := { name := "pathsVars", fn := fun _ => fun
  | [d1, d2] => { results := [.lit (.bool true)], args := [d1, d2] }
  | _ => none }
def pathsVarsRow : OpenClaim := { program := "ytnofmnoohnmanaa", sum := "111739cc4520602c03bd186a2f54b9de72619fc825df299ccb32c8256465308b", func := "weftway/weftwaylaw11.PathsVars", spec := "pathsVars", inPlace := ["internal/abi.NoEscape", "internal/bytealg.MakeNoZero"], unfollowed := true, recurses := true, apart := false }
def PathsVarsSaid : Prop := pathsVarsRow.holds Try.pinned (OpenSpec.ofChange pathsVarsSpec)

/-- ITS FALSE NEIGHBOUR: 'it returns false'. Refute it at one input. -/
def pathsVarsWrong : ChangeSpec := { name := "pathsVars", fn := fun _ => fun
  | [d1, d2] => { results := [.lit (.bool false)], args := [d1, d2] }
  | _ => none }
def PathsVarsWrongFalsely : Prop := pathsVarsRow.holds Try.pinned (OpenSpec.ofChange pathsVarsWrong)

/- THE SECOND FORM. 'bulk': how many values and letters a reading holds, each counted each time it is reached (what is shared counts as often as it is met; a slice's spare places count too). A statement '..UptoSaid' is the law's where the arguments, and the package variables that the reading takes, are together of bulk at most 1048576: NARROWER than '..Said'. Prove '..Said' where nothing that the law and all that it calls make is longer than what came in: it says more and counts as full. Else prove '..UptoSaid'. A law counts once. -/
mutual
def uptoBulk {H : Type} : DataW H → Nat
  | .lit (.string bytes) => bytes.length + 1
  | .lit _ => 1
  | .nil => 1
  | .ptr d => uptoBulk d + 1
  | .slice elems spare => uptoBulkAll elems + uptoBulkAll spare + 1
  | .agg parts => uptoBulkAll parts + 1
  | .iface _ d => uptoBulk d + 1
  | .map entries => uptoBulkEntries entries + 1
  | .held _ => 1
def uptoBulkAll {H : Type} : List (DataW H) → Nat
  | [] => 0
  | d :: r => uptoBulk d + uptoBulkAll r
def uptoBulkEntries {H : Type} : List (Lit × DataW H) → Nat
  | [] => 0
  | x :: r => uptoBulkEntry x + uptoBulkEntries r
def uptoBulkEntry {H : Type} : Lit × DataW H → Nat
  | (.string bytes, d) => bytes.length + uptoBulk d + 1
  | (_, d) => uptoBulk d + 1
 end
def uptoSmall : (H : Type) → List (DataW H) → Bool := fun _ ds => decide (uptoBulkAll ds ≤ 1048576)
def OpenSpec.upto (s : _root_.Go.ChangeSpec) : _root_.Go.OpenSpec := { _root_.Go.OpenSpec.ofChange s with cond := some uptoSmall }

/-- 'weftwaylaw11.PathsMeet', WHERE WHAT IT READS IS OF BULK AT MOST 1048576: true; the input reads as it did. -/
def pathsMeetUptoRow : OpenClaim := { program := "ytnofmnoohnmanaa", sum := "111739cc4520602c03bd186a2f54b9de72619fc825df299ccb32c8256465308b", func := "weftway/weftwaylaw11.PathsMeet", spec := "pathsMeet", inPlace := ["internal/abi.NoEscape", "internal/bytealg.MakeNoZero"], unfollowed := true, recurses := true, apart := false, narrowed := true }
def PathsMeetUptoSaid : Prop := pathsMeetUptoRow.holds Try.pinned (OpenSpec.upto pathsMeetSpec)

/-- 'weftwaylaw11.PathsTexts', WHERE WHAT IT READS IS OF BULK AT MOST 1048576: true; the input reads as it did. -/
def pathsTextsUptoRow : OpenClaim := { program := "ytnofmnoohnmanaa", sum := "111739cc4520602c03bd186a2f54b9de72619fc825df299ccb32c8256465308b", func := "weftway/weftwaylaw11.PathsTexts", spec := "pathsTexts", inPlace := ["internal/abi.NoEscape", "internal/bytealg.MakeNoZero"], unfollowed := true, recurses := true, apart := false, narrowed := true }
def PathsTextsUptoSaid : Prop := pathsTextsUptoRow.holds Try.pinned (OpenSpec.upto pathsTextsSpec)

/-- 'weftwaylaw11.PathsLeast', WHERE WHAT IT READS IS OF BULK AT MOST 1048576: true; the input reads as it did. -/
def pathsLeastUptoRow : OpenClaim := { program := "ytnofmnoohnmanaa", sum := "111739cc4520602c03bd186a2f54b9de72619fc825df299ccb32c8256465308b", func := "weftway/weftwaylaw11.PathsLeast", spec := "pathsLeast", inPlace := ["internal/abi.NoEscape", "internal/bytealg.MakeNoZero"], unfollowed := true, recurses := true, apart := false, narrowed := true }
def PathsLeastUptoSaid : Prop := pathsLeastUptoRow.holds Try.pinned (OpenSpec.upto pathsLeastSpec)

/-- 'weftwaylaw11.PathsSteps', WHERE WHAT IT READS IS OF BULK AT MOST 1048576: true; the input reads as it did. -/
def pathsStepsUptoRow : OpenClaim := { program := "ytnofmnoohnmanaa", sum := "111739cc4520602c03bd186a2f54b9de72619fc825df299ccb32c8256465308b", func := "weftway/weftwaylaw11.PathsSteps", spec := "pathsSteps", inPlace := ["internal/abi.NoEscape", "internal/bytealg.MakeNoZero"], unfollowed := true, recurses := true, apart := false, narrowed := true }
def PathsStepsUptoSaid : Prop := pathsStepsUptoRow.holds Try.pinned (OpenSpec.upto pathsStepsSpec)

/-- 'weftwaylaw11.PathsThird', WHERE WHAT IT READS IS OF BULK AT MOST 1048576: true; the input reads as it did. -/
def pathsThirdUptoRow : OpenClaim := { program := "ytnofmnoohnmanaa", sum := "111739cc4520602c03bd186a2f54b9de72619fc825df299ccb32c8256465308b", func := "weftway/weftwaylaw11.PathsThird", spec := "pathsThird", inPlace := ["internal/abi.NoEscape", "internal/bytealg.MakeNoZero"], unfollowed := true, recurses := true, apart := false, narrowed := true }
def PathsThirdUptoSaid : Prop := pathsThirdUptoRow.holds Try.pinned (OpenSpec.upto pathsThirdSpec)

/-- 'weftwaylaw11.PathsEnough', WHERE WHAT IT READS IS OF BULK AT MOST 1048576: true; the input reads as it did. -/
def pathsEnoughUptoRow : OpenClaim := { program := "ytnofmnoohnmanaa", sum := "111739cc4520602c03bd186a2f54b9de72619fc825df299ccb32c8256465308b", func := "weftway/weftwaylaw11.PathsEnough", spec := "pathsEnough", inPlace := ["internal/abi.NoEscape", "internal/bytealg.MakeNoZero"], unfollowed := true, recurses := true, apart := false, narrowed := true }
def PathsEnoughUptoSaid : Prop := pathsEnoughUptoRow.holds Try.pinned (OpenSpec.upto pathsEnoughSpec)

/-- 'weftwaylaw11.PathsOwn', WHERE WHAT IT READS IS OF BULK AT MOST 1048576: true; the input reads as it did. -/
def pathsOwnUptoRow : OpenClaim := { program := "ytnofmnoohnmanaa", sum := "111739cc4520602c03bd186a2f54b9de72619fc825df299ccb32c8256465308b", func := "weftway/weftwaylaw11.PathsOwn", spec := "pathsOwn", inPlace := ["internal/abi.NoEscape", "internal/bytealg.MakeNoZero"], unfollowed := true, recurses := true, apart := false, narrowed := true }
def PathsOwnUptoSaid : Prop := pathsOwnUptoRow.holds Try.pinned (OpenSpec.upto pathsOwnSpec)

/-- 'weftwaylaw11.PathsVars', WHERE WHAT IT READS IS OF BULK AT MOST 1048576: true; the input reads as it did. -/
def pathsVarsUptoRow : OpenClaim := { program := "ytnofmnoohnmanaa", sum := "111739cc4520602c03bd186a2f54b9de72619fc825df299ccb32c8256465308b", func := "weftway/weftwaylaw11.PathsVars", spec := "pathsVars", inPlace := ["internal/abi.NoEscape", "internal/bytealg.MakeNoZero"], unfollowed := true, recurses := true, apart := false, narrowed := true }
def PathsVarsUptoSaid : Prop := pathsVarsUptoRow.holds Try.pinned (OpenSpec.upto pathsVarsSpec)

end Rows
end Go.Proofs.Ytnofmnoohnmanaa
