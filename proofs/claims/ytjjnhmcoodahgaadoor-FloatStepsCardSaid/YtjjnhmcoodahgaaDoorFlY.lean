/- What the package's variables hold, out of the row's condition. -/
import Derived.Test.YtjjnhmcoodahgaaDoorRows
import Derived.Test.YtjjnhmcoodahgaaDoorFlC
import Derived.WalkKit
import Derived.ProofKit
import Derived.OpenShut
import Derived.ChangeOld
import Derived.Below
import Derived.Lib.SmallJoins
import Derived.Lib.LaidU8
import Derived.Lay
import Derived.MakeChecks
namespace Tt
open Go Go.Proofs Go.Proofs.YtjjnhmcoodahgaaDoor
open Go.ChangeShapes Go.WideShapes Go.ChangeAt Go.RowKit Go.Joins
set_option linter.unusedVariables false
set_option maxRecDepth 100000 in
theorem fmt_cells {W : World} {n : String} {g : Nat} {a b c : Int} (hr : Lib.VarReads Tryd.prog W n (.agg [.lit (.int .u64 a), .lit (.int .i64 b), .lit (.int .i64 c)])) (hn : Tryd.prog.globalNamed n = some g) (hty : (Tryd.prog.globals[g]?).map (·.type) = some 68) :
    W.cell? ⟨g, 0, none⟩ = some (.int .u64 a) ∧ W.cell? ⟨g, 1, none⟩ = some (.int .i64 b) ∧ W.cell? ⟨g, 2, none⟩ = some (.int .i64 c) := by
  obtain ⟨g', t, cs, fuel, p, e1, e2, e3, e4⟩ := hr
  obtain rfl := Option.some.inj (hn.symm.trans e1)
  obtain rfl := Option.some.inj (hty.symm.trans e2)
  have hc := World.var?_cell hn e3
  obtain ⟨xs, n', rfl, hx, hl, hxl, hall⟩ := DataW.trod_struct Tryd.underlying68 e4
  have h0 := hall 0 _ rfl
  have h1 := hall 1 _ rfl
  have h2 := hall 2 _ rfl
  have k22 : Tryd.prog.cellsOf 66 = 1 := by kernel_rfl
  have k3 : Tryd.prog.cellsOf 3 = 1 := by kernel_rfl
  have kf : Tryd.prog.cellsOf 68 = 3 := by kernel_rfl
  rw [kf] at hl
  match xs, hxl, hx with
  | [y0, y1, y2], _, hx =>
    obtain ⟨z0, q0, r0⟩ := DataW.trod_int Tryd.underlying66 h0
    obtain ⟨z1, q1, r1⟩ := DataW.trod_int Tryd.underlying3 h1
    obtain ⟨z2, q2, r2⟩ := DataW.trod_int Tryd.underlying3 h2
    obtain ⟨c0, c1, c2, rfl⟩ := array3 (cs := cs) (by simpa using hl)
    simp [k22, k3] at q0 q1 q2
    obtain ⟨rfl, _⟩ := r0
    obtain ⟨rfl, _⟩ := r1
    obtain ⟨rfl, _⟩ := r2
    simp only [List.map_cons, List.map_nil, DataW.agg.injEq, List.cons.injEq, DataW.lit.injEq, Lit.int.injEq, Prod.mk.injEq, true_and, and_true] at hx
    obtain ⟨⟨x0, x1, x2⟩, _⟩ := hx
    clear h0 h1 h2 hall e4 hl e3
    subst x0 x1 x2
    rw [hc 0, hc 1, hc 2, q0, q1, q2]
    exact ⟨rfl, rfl, rfl⟩
/-- Wide and small. -/
theorem globs_of {W : World} (h1 : Lib.VarReads Tryd.prog W "tontine/float.wide" (.agg [.lit (.int .u64 53), .lit (.int .i64 (-1074)), .lit (.int .i64 971)])) (h2 : Lib.VarReads Tryd.prog W "tontine/float.small" (.agg [.lit (.int .u64 24), .lit (.int .i64 (-149)), .lit (.int .i64 104)])) : Globs W :=
  ⟨fmt_cells h1 (by kernel_rfl) (by kernel_rfl), fmt_cells h2 (by kernel_rfl) (by kernel_rfl)⟩
end Tt
