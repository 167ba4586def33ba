/-
  No cell of these rows narrows 'for every input' (looked for: loops, veiled, ifaces, maps, wideKeys, modest, calm, conditions, laid).
  DERIVED. THE GIVEN ROWS OF THIS SEAT. 3 by the template 'for every input the law returns true; each argument reads behind the call as it read before'; 0 by the template 'total and deterministic' (their statements: YtjjnhmcoodahgaaTotals.lean).
  GIVEN WITH THE SEED: the statements are not yours to turn. If you find one false, say at which input.
  Laid BY PROGRAM, IN A SANDBOX (cutbox-rows.mjs): the forced cells as the released guide's own fill.sh prints them over the translation deab9eaf4327c88a… (all of the seat's roots in one cut). By AI agents, Wed Nov 11 2026. No macro, syntax, notation, axiom, sorry.
-/
import Derived.Test.YtjjnhmcoodahgaaChecked
import GoSem.Claim
import GoSem.ClaimJoined
import GoSem.ClaimMapViews
import Derived.JoinedTies
import Derived.KernelRfl
namespace Go.Proofs.Ytjjnhmcoodahgaa
/- THE CELL 'sum', in the pinned program and in every row, IS THE sha256 OF THE DUMP (.gsa) THAT YtjjnhmcoodahgaaProg.lean LOADS. Nothing in Lean hashes anything: it is a label: what it is worth is what the hold of that sum in a sandbox is worth. -/
noncomputable def Try.pinned : Pinned := { name := "ytjjnhmcoodahgaa", sum := "deab9eaf4327c88ad6292166306f2e32dd152d8a62e183de579f4b25805f5342", checked := Try.checked }
namespace Rows
def none {H : Type} : Left H := { results := [], args := [] }

/-- 'tontinelaw13.ValueFlows': WHATEVER THE INPUT: true; the input reads as it did. -/
def valueFlowsSpec : ChangeSpec := { name := "valueFlows", fn := fun _ => fun
  | [d1, d2] => { results := [.lit (.bool true)], args := [d1, d2] }
  | _ => none }
def valueFlowsRow : OpenClaim := { program := "ytjjnhmcoodahgaa", sum := "deab9eaf4327c88ad6292166306f2e32dd152d8a62e183de579f4b25805f5342", func := "tontine/tontinelaw13.ValueFlows", spec := "valueFlows", unfollowed := true, recurses := true, apart := false }
def ValueFlowsSaid : Prop := valueFlowsRow.holds Try.pinned (OpenSpec.ofChange valueFlowsSpec)

/-- ITS FALSE NEIGHBOUR: 'it returns false'. Refute it at one input. -/
def valueFlowsWrong : ChangeSpec := { name := "valueFlows", fn := fun _ => fun
  | [d1, d2] => { results := [.lit (.bool false)], args := [d1, d2] }
  | _ => none }
def ValueFlowsWrongFalsely : Prop := valueFlowsRow.holds Try.pinned (OpenSpec.ofChange valueFlowsWrong)

/-- 'tontinelaw02.FloatExacts': WHATEVER THE INPUT: true; the input reads as it did. -/
def floatExactsSpec : ChangeSpec := { name := "floatExacts", fn := fun _ => fun
  | [d1, d2] => { results := [.lit (.bool true)], args := [d1, d2] }
  | _ => none }
def floatExactsRow : OpenClaim := { program := "ytjjnhmcoodahgaa", sum := "deab9eaf4327c88ad6292166306f2e32dd152d8a62e183de579f4b25805f5342", func := "tontine/tontinelaw02.FloatExacts", spec := "floatExacts", inPlace := ["math.Float64frombits", "math.Float64bits", "math.Float32frombits"], recurses := true, apart := false }
def FloatExactsSaid : Prop := floatExactsRow.holds Try.pinned (OpenSpec.ofChange floatExactsSpec)

/-- ITS FALSE NEIGHBOUR: 'it returns false'. Refute it at one input. -/
def floatExactsWrong : ChangeSpec := { name := "floatExacts", fn := fun _ => fun
  | [d1, d2] => { results := [.lit (.bool false)], args := [d1, d2] }
  | _ => none }
def FloatExactsWrongFalsely : Prop := floatExactsRow.holds Try.pinned (OpenSpec.ofChange floatExactsWrong)

/-- 'tontinelaw16.StateForwards': WHATEVER THE INPUT: true; the input reads as it did. -/
def stateForwardsSpec : ChangeSpec := { name := "stateForwards", fn := fun _ => fun
  | [d1, d2] => { results := [.lit (.bool true)], args := [d1, d2] }
  | _ => none }
def stateForwardsRow : OpenClaim := { program := "ytjjnhmcoodahgaa", sum := "deab9eaf4327c88ad6292166306f2e32dd152d8a62e183de579f4b25805f5342", func := "tontine/tontinelaw16.StateForwards", spec := "stateForwards", unfollowed := true, recurses := true, apart := false }
def StateForwardsSaid : Prop := stateForwardsRow.holds Try.pinned (OpenSpec.ofChange stateForwardsSpec)

/-- ITS FALSE NEIGHBOUR: 'it returns false'. Refute it at one input. -/
def stateForwardsWrong : ChangeSpec := { name := "stateForwards", fn := fun _ => fun
  | [d1, d2] => { results := [.lit (.bool false)], args := [d1, d2] }
  | _ => none }
def StateForwardsWrongFalsely : Prop := stateForwardsRow.holds Try.pinned (OpenSpec.ofChange stateForwardsWrong)

/- THE SECOND FORM. 'bulk': how many values and letters a reading holds, each counted each time it is reached (what is shared counts as often as it is met; a slice's spare places count too). A statement '..UptoSaid' is the law's where the arguments, and the package variables that the reading takes, are together of bulk at most 1048576: NARROWER than '..Said'. Prove '..Said' where nothing that the law and all that it calls make is longer than what came in: it says more and counts as full. Else prove '..UptoSaid'. A law counts once. -/
mutual
def uptoBulk {H : Type} : DataW H → Nat
  | .lit (.string bytes) => bytes.length + 1
  | .lit _ => 1
  | .nil => 1
  | .ptr d => uptoBulk d + 1
  | .slice elems spare => uptoBulkAll elems + uptoBulkAll spare + 1
  | .agg parts => uptoBulkAll parts + 1
  | .iface _ d => uptoBulk d + 1
  | .map entries => uptoBulkEntries entries + 1
  | .held _ => 1
def uptoBulkAll {H : Type} : List (DataW H) → Nat
  | [] => 0
  | d :: r => uptoBulk d + uptoBulkAll r
def uptoBulkEntries {H : Type} : List (Lit × DataW H) → Nat
  | [] => 0
  | x :: r => uptoBulkEntry x + uptoBulkEntries r
def uptoBulkEntry {H : Type} : Lit × DataW H → Nat
  | (.string bytes, d) => bytes.length + uptoBulk d + 1
  | (_, d) => uptoBulk d + 1
 end
def uptoSmall : (H : Type) → List (DataW H) → Bool := fun _ ds => decide (uptoBulkAll ds ≤ 1048576)
def OpenSpec.upto (s : _root_.Go.ChangeSpec) : _root_.Go.OpenSpec := { _root_.Go.OpenSpec.ofChange s with cond := some uptoSmall }

/-- 'tontinelaw13.ValueFlows', WHERE WHAT IT READS IS OF BULK AT MOST 1048576: true; the input reads as it did. -/
def valueFlowsUptoRow : OpenClaim := { program := "ytjjnhmcoodahgaa", sum := "deab9eaf4327c88ad6292166306f2e32dd152d8a62e183de579f4b25805f5342", func := "tontine/tontinelaw13.ValueFlows", spec := "valueFlows", unfollowed := true, recurses := true, apart := false, narrowed := true }
def ValueFlowsUptoSaid : Prop := valueFlowsUptoRow.holds Try.pinned (OpenSpec.upto valueFlowsSpec)

/-- 'tontinelaw02.FloatExacts', WHERE WHAT IT READS IS OF BULK AT MOST 1048576: true; the input reads as it did. -/
def floatExactsUptoRow : OpenClaim := { program := "ytjjnhmcoodahgaa", sum := "deab9eaf4327c88ad6292166306f2e32dd152d8a62e183de579f4b25805f5342", func := "tontine/tontinelaw02.FloatExacts", spec := "floatExacts", inPlace := ["math.Float64frombits", "math.Float64bits", "math.Float32frombits"], recurses := true, apart := false, narrowed := true }
def FloatExactsUptoSaid : Prop := floatExactsUptoRow.holds Try.pinned (OpenSpec.upto floatExactsSpec)

/-- 'tontinelaw16.StateForwards', WHERE WHAT IT READS IS OF BULK AT MOST 1048576: true; the input reads as it did. -/
def stateForwardsUptoRow : OpenClaim := { program := "ytjjnhmcoodahgaa", sum := "deab9eaf4327c88ad6292166306f2e32dd152d8a62e183de579f4b25805f5342", func := "tontine/tontinelaw16.StateForwards", spec := "stateForwards", unfollowed := true, recurses := true, apart := false, narrowed := true }
def StateForwardsUptoSaid : Prop := stateForwardsUptoRow.holds Try.pinned (OpenSpec.upto stateForwardsSpec)

end Rows
end Go.Proofs.Ytjjnhmcoodahgaa
