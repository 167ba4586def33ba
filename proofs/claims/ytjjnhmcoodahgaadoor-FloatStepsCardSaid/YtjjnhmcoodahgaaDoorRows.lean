/-
  NARROWER THAN 'FOR EVERY INPUT', by the rows' own cells (each row's printed sentence says how): FloatSplits: laid · FloatSteps: laid · FloatNarrows: laid.
  DERIVED. THE GIVEN ROWS OF THIS SEAT. 3 by the template 'for every input the law returns true; each argument reads behind the call as it read before'; 0 by the template 'total and deterministic' (their statements: YtjjnhmcoodahgaaDoorTotals.lean).
  GIVEN WITH THE SEED: the statements are not yours to turn. If you find one false, say at which input.
  Laid BY PROGRAM, IN A SANDBOX (cutbox-rows.mjs): the forced cells as the released guide's own fill.sh prints them over the translation 0d829ce9f74516e0… (all of the seat's roots in one cut). By AI agents, Wed Nov 11 2026. No macro, syntax, notation, axiom, sorry.
-/
import Derived.Test.YtjjnhmcoodahgaaDoorChecked
import GoSem.Claim
import GoSem.ClaimJoined
import GoSem.ClaimMapViews
import Derived.JoinedTies
import Derived.KernelRfl
namespace Go.Proofs.YtjjnhmcoodahgaaDoor
/- THE CELL 'sum', in the pinned program and in every row, IS THE sha256 OF THE DUMP (.gsa) THAT YtjjnhmcoodahgaaDoorProg.lean LOADS. Nothing in Lean hashes anything: it is a label: what it is worth is what the hold of that sum in a sandbox is worth. -/
noncomputable def Tryd.pinned : Pinned := { name := "ytjjnhmcoodahgaadoor", sum := "0d829ce9f74516e0fc9b60e0a21a551e75198aba18151561199e111da3b4bd36", checked := Tryd.checked }
namespace Rows
def none {H : Type} : Left H := { results := [], args := [] }

/- WHAT THE LISTED PACKAGE-LEVEL VARIABLES READ AS WHEN THE CALL BEGINS. Each datum BY PROGRAM (the guide's laid-datum.mjs) off the statement by which the dump's own 'gosem.cut.vars' lays the variable. In a bare row this is a premise. The card (YtjjnhmcoodahgaaDoorCards.lean) ties it to the program's text. -/
def laid_tontine_float_wide {H : Type} : DataW H := .agg [.lit (.int .u64 53), .lit (.int .i64 (-1074)), .lit (.int .i64 971)]
def laid_tontine_float_small {H : Type} : DataW H := .agg [.lit (.int .u64 24), .lit (.int .i64 (-149)), .lit (.int .i64 104)]

/-- 'tontinelaw02.FloatSplits': WHATEVER THE INPUT: true; the input reads as it did. -/
def floatSplitsSpec : ChangeSpec := { name := "floatSplits", fn := fun _ => fun
  | [d1, d2, d3] => { results := [.lit (.bool true)], args := [d1, d2, d3] }
  | _ => none }
def floatSplitsRow : OpenClaim := { program := "ytjjnhmcoodahgaadoor", sum := "0d829ce9f74516e0fc9b60e0a21a551e75198aba18151561199e111da3b4bd36", func := "tontine/tontinelaw02.FloatSplits", spec := "floatSplits", inPlace := ["math.Float64frombits", "math.Float64bits", "math.Float32frombits", "math.Float32bits"], named := ["tontine/float.wide", "tontine/float.small"], apart := false, laid := [("tontine/float.wide", laid_tontine_float_wide), ("tontine/float.small", laid_tontine_float_small)] }
def FloatSplitsSaid : Prop := floatSplitsRow.holds Tryd.pinned (OpenSpec.ofChange floatSplitsSpec)

/-- ITS FALSE NEIGHBOUR: 'it returns false'. Refute it at one input. -/
def floatSplitsWrong : ChangeSpec := { name := "floatSplits", fn := fun _ => fun
  | [d1, d2, d3] => { results := [.lit (.bool false)], args := [d1, d2, d3] }
  | _ => none }
def FloatSplitsWrongFalsely : Prop := floatSplitsRow.holds Tryd.pinned (OpenSpec.ofChange floatSplitsWrong)

/-- 'tontinelaw02.FloatSteps': WHATEVER THE INPUT: true; the input reads as it did. -/
def floatStepsSpec : ChangeSpec := { name := "floatSteps", fn := fun _ => fun
  | [d1, d2] => { results := [.lit (.bool true)], args := [d1, d2] }
  | _ => none }
def floatStepsRow : OpenClaim := { program := "ytjjnhmcoodahgaadoor", sum := "0d829ce9f74516e0fc9b60e0a21a551e75198aba18151561199e111da3b4bd36", func := "tontine/tontinelaw02.FloatSteps", spec := "floatSteps", inPlace := ["math.Float64frombits", "math.Float64bits"], named := ["tontine/float.wide"], apart := false, laid := [("tontine/float.wide", laid_tontine_float_wide)] }
def FloatStepsSaid : Prop := floatStepsRow.holds Tryd.pinned (OpenSpec.ofChange floatStepsSpec)

/-- ITS FALSE NEIGHBOUR: 'it returns false'. Refute it at one input. -/
def floatStepsWrong : ChangeSpec := { name := "floatSteps", fn := fun _ => fun
  | [d1, d2] => { results := [.lit (.bool false)], args := [d1, d2] }
  | _ => none }
def FloatStepsWrongFalsely : Prop := floatStepsRow.holds Tryd.pinned (OpenSpec.ofChange floatStepsWrong)

/-- 'tontinelaw02.FloatNarrows': WHATEVER THE INPUT: true; the input reads as it did. -/
def floatNarrowsSpec : ChangeSpec := { name := "floatNarrows", fn := fun _ => fun
  | [d1, d2, d3] => { results := [.lit (.bool true)], args := [d1, d2, d3] }
  | _ => none }
def floatNarrowsRow : OpenClaim := { program := "ytjjnhmcoodahgaadoor", sum := "0d829ce9f74516e0fc9b60e0a21a551e75198aba18151561199e111da3b4bd36", func := "tontine/tontinelaw02.FloatNarrows", spec := "floatNarrows", inPlace := ["math.Float64frombits", "math.Float64bits", "math.Float32frombits", "math.Float32bits"], recurses := true, named := ["tontine/float.small"], apart := false, laid := [("tontine/float.small", laid_tontine_float_small)] }
def FloatNarrowsSaid : Prop := floatNarrowsRow.holds Tryd.pinned (OpenSpec.ofChange floatNarrowsSpec)

/-- ITS FALSE NEIGHBOUR: 'it returns false'. Refute it at one input. -/
def floatNarrowsWrong : ChangeSpec := { name := "floatNarrows", fn := fun _ => fun
  | [d1, d2, d3] => { results := [.lit (.bool false)], args := [d1, d2, d3] }
  | _ => none }
def FloatNarrowsWrongFalsely : Prop := floatNarrowsRow.holds Tryd.pinned (OpenSpec.ofChange floatNarrowsWrong)

/- THE SECOND FORM. 'bulk': how many values and letters a reading holds, each counted each time it is reached (what is shared counts as often as it is met; a slice's spare places count too). A statement '..UptoSaid' is the law's where the arguments, and the package variables that the reading takes, are together of bulk at most 1048576: NARROWER than '..Said'. Prove '..Said' where nothing that the law and all that it calls make is longer than what came in: it says more and counts as full. Else prove '..UptoSaid'. A law counts once. -/
mutual
def uptoBulk {H : Type} : DataW H → Nat
  | .lit (.string bytes) => bytes.length + 1
  | .lit _ => 1
  | .nil => 1
  | .ptr d => uptoBulk d + 1
  | .slice elems spare => uptoBulkAll elems + uptoBulkAll spare + 1
  | .agg parts => uptoBulkAll parts + 1
  | .iface _ d => uptoBulk d + 1
  | .map entries => uptoBulkEntries entries + 1
  | .held _ => 1
def uptoBulkAll {H : Type} : List (DataW H) → Nat
  | [] => 0
  | d :: r => uptoBulk d + uptoBulkAll r
def uptoBulkEntries {H : Type} : List (Lit × DataW H) → Nat
  | [] => 0
  | x :: r => uptoBulkEntry x + uptoBulkEntries r
def uptoBulkEntry {H : Type} : Lit × DataW H → Nat
  | (.string bytes, d) => bytes.length + uptoBulk d + 1
  | (_, d) => uptoBulk d + 1
 end
def uptoSmall : (H : Type) → List (DataW H) → Bool := fun _ ds => decide (uptoBulkAll ds ≤ 1048576)
def OpenSpec.upto (s : _root_.Go.ChangeSpec) : _root_.Go.OpenSpec := { _root_.Go.OpenSpec.ofChange s with cond := some uptoSmall }

/-- 'tontinelaw02.FloatSplits', WHERE WHAT IT READS IS OF BULK AT MOST 1048576: true; the input reads as it did. -/
def floatSplitsUptoRow : OpenClaim := { program := "ytjjnhmcoodahgaadoor", sum := "0d829ce9f74516e0fc9b60e0a21a551e75198aba18151561199e111da3b4bd36", func := "tontine/tontinelaw02.FloatSplits", spec := "floatSplits", inPlace := ["math.Float64frombits", "math.Float64bits", "math.Float32frombits", "math.Float32bits"], named := ["tontine/float.wide", "tontine/float.small"], apart := false, laid := [("tontine/float.wide", laid_tontine_float_wide), ("tontine/float.small", laid_tontine_float_small)], narrowed := true }
def FloatSplitsUptoSaid : Prop := floatSplitsUptoRow.holds Tryd.pinned (OpenSpec.upto floatSplitsSpec)

/-- 'tontinelaw02.FloatSteps', WHERE WHAT IT READS IS OF BULK AT MOST 1048576: true; the input reads as it did. -/
def floatStepsUptoRow : OpenClaim := { program := "ytjjnhmcoodahgaadoor", sum := "0d829ce9f74516e0fc9b60e0a21a551e75198aba18151561199e111da3b4bd36", func := "tontine/tontinelaw02.FloatSteps", spec := "floatSteps", inPlace := ["math.Float64frombits", "math.Float64bits"], named := ["tontine/float.wide"], apart := false, laid := [("tontine/float.wide", laid_tontine_float_wide)], narrowed := true }
def FloatStepsUptoSaid : Prop := floatStepsUptoRow.holds Tryd.pinned (OpenSpec.upto floatStepsSpec)

/-- 'tontinelaw02.FloatNarrows', WHERE WHAT IT READS IS OF BULK AT MOST 1048576: true; the input reads as it did. -/
def floatNarrowsUptoRow : OpenClaim := { program := "ytjjnhmcoodahgaadoor", sum := "0d829ce9f74516e0fc9b60e0a21a551e75198aba18151561199e111da3b4bd36", func := "tontine/tontinelaw02.FloatNarrows", spec := "floatNarrows", inPlace := ["math.Float64frombits", "math.Float64bits", "math.Float32frombits", "math.Float32bits"], recurses := true, named := ["tontine/float.small"], apart := false, laid := [("tontine/float.small", laid_tontine_float_small)], narrowed := true }
def FloatNarrowsUptoSaid : Prop := floatNarrowsUptoRow.holds Tryd.pinned (OpenSpec.upto floatNarrowsSpec)

end Rows
end Go.Proofs.YtjjnhmcoodahgaaDoor
