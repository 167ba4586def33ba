/- Floats by their bits: laws of bits, the library's doors, the sizes. -/
import Derived.Test.YtjjnhmcoodahgaaDoorProg
import Derived.Test.YtjjnhmcoodahgaaDoorMem
import Derived.KernelRfl
import Derived.RowKit3
import Derived.Deep.LoopGhost
import Derived.Deep.QuietTactic
import Derived.BigQuiet
import Derived.WideLaws
import Derived.Deep.DeepCutAuto
import Derived.Deep.CutBlock
import Derived.Deep.RegionHeld3
import Derived.Laws.Rows
import Derived.Laws.Externs
import Derived.Laws.BitsLemmas
import Derived.IntWalk
import Derived.Outline
import Derived.Lib.Hide
import Derived.WalkLawsBesides
import Derived.WalkSpells
namespace Tt
open Go Go.RowKit Go.Proofs
set_option linter.unusedSimpArgs false
set_option linter.unusedVariables false
set_option maxRecDepth 100000

theorem u64_in (n : Int) (h₀ : 0 ≤ n) (h₁ : n < 2 ^ 64) : IntKind.u64.wrap n = n := by
  simp [IntKind.wrap, IntKind.bits, IntKind.signed]; omega
theorem u64_mask (i : Nat) (hi : i ≤ 64) (x m : Int) (h₀ : 0 ≤ x) (h₁ : x < 2 ^ 64) (hm : m = 2 ^ i - 1) : bits .and .u64 x m = x % 2 ^ i := by
  subst hm
  exact bits_mask .u64 64 (by decide) u64_in i hi x h₀ h₁
theorem u64_join (i : Nat) (x y : Int) (hx₀ : 0 ≤ x) (hx : x % 2 ^ i = 0) (hx₁ : x < 2 ^ 64) (hy₀ : 0 ≤ y) (hy : y < 2 ^ i) (hy₁ : y < 2 ^ 64) : bits .or .u64 x y = x + y :=
  bits_join .u64 64 (by decide) u64_in i x y hx₀ hx hx₁ hy₀ hy hy₁

theorem f64frombits (b : Int) (w : World) : (callFunc 8 #[.int .u64 b]).run Tryd.prog w = .ok (.value (.float .f64 b.toNat)) w := by
  rw [run_callFunc_extern (e := Extern.MathFloatBits.float64frombits) Tryd.func8 (by kernel_rfl) (by kernel_rfl) (by kernel_rfl) (by kernel_rfl)]
  rfl
theorem f64bits (b : Nat) (w : World) : (callFunc 35 #[.float .f64 b]).run Tryd.prog w = .ok (.value (.int .u64 b)) w := by
  rw [run_callFunc_extern (e := Extern.MathFloatBits.float64bits) Tryd.func35 (by kernel_rfl) (by kernel_rfl) (by kernel_rfl) (by kernel_rfl)]
  rfl

theorem f32frombits (b : Int) (w : World) : (callFunc 12 #[.int .u32 b]).run Tryd.prog w = .ok (.value (.float .f32 b.toNat)) w := by
  rw [run_callFunc_extern (e := Extern.MathFloatBits.float32frombits) Tryd.func12 (by kernel_rfl) (by kernel_rfl) (by kernel_rfl) (by kernel_rfl)]
  rfl
theorem f32bits (b : Nat) (w : World) : (callFunc 39 #[.float .f32 b]).run Tryd.prog w = .ok (.value (.int .u32 b)) w := by
  rw [run_callFunc_extern (e := Extern.MathFloatBits.float32bits) Tryd.func39 (by kernel_rfl) (by kernel_rfl) (by kernel_rfl) (by kernel_rfl)]
  rfl

/-- Nothing that was there is changed. -/
def RetV (w : World) (v : Value) (e : Ending) (w' : World) : Prop := e = .returned v ∧ Step w w'
def RetX (w : World) (v : Value) (e : Ending) (w' : World) : Prop := e = .returned v ∧ w = w'
def wideV : Value := .agg #[.int .i64 53, .int .i64 (-1074), .int .i64 971, .int .i64 52]

theorem wide_calls (w : World) : Calls Tryd.prog 9 #[] w (RetV w wideV) := by
  have hu := Tryd.underlying31
  go_enter Tryd.func9, Tryd.ntmps9
  go_wp2
  refine bodyPost_ret (results_cell_row rfl _ _ w.heap.size 31 #[.int .i64 53, .int .i64 (-1074), .int .i64 971, .int .i64 52] (0, 0) _ rfl ?hg hu rfl rfl) rfl ?_
  case hg => exact heap_alloc_new _ _
  exact ⟨rfl, Step.of⟩
/-- A copy of the size is made, and nothing else. -/
def RetS (w : World) (v : Value) (cs : Array Value) (e : Ending) (w' : World) : Prop := e = .returned v ∧ w.alloc (.cells cs 31) = w'
theorem wtop_calls (w : World) : Calls Tryd.prog 37 #[wideV] w (RetS w (.int .u64 2047) #[.int .i64 53, .int .i64 (-1074), .int .i64 971, .int .i64 52]) := by
  unfold wideV
  have hu := Tryd.underlying31
  go_enter Tryd.func37, Tryd.ntmps37
  go_wp2
  go_ret
  exact ⟨rfl, rfl⟩
theorem wsign_calls (w : World) : Calls Tryd.prog 64 #[wideV] w (RetS w (.int .i64 63) #[.int .i64 53, .int .i64 (-1074), .int .i64 971, .int .i64 52]) := by
  unfold wideV
  have hu := Tryd.underlying31
  go_enter Tryd.func64, Tryd.ntmps64
  go_wp2
  go_ret
  exact ⟨rfl, rfl⟩
def smallV : Value := .agg #[.int .i64 24, .int .i64 (-149), .int .i64 104, .int .i64 23]

theorem small_calls (w : World) : Calls Tryd.prog 13 #[] w (RetV w smallV) := by
  have hu := Tryd.underlying31
  go_enter Tryd.func13, Tryd.ntmps13
  go_wp2
  refine bodyPost_ret (results_cell_row rfl _ _ w.heap.size 31 #[.int .i64 24, .int .i64 (-149), .int .i64 104, .int .i64 23] (0, 0) _ rfl ?hg hu rfl rfl) rfl ?_
  case hg => exact heap_alloc_new _ _
  exact ⟨rfl, Step.of⟩
theorem stop_calls (w : World) : Calls Tryd.prog 37 #[smallV] w (RetS w (.int .u64 255) #[.int .i64 24, .int .i64 (-149), .int .i64 104, .int .i64 23]) := by
  unfold smallV
  have hu := Tryd.underlying31
  go_enter Tryd.func37, Tryd.ntmps37
  go_wp2
  go_ret
  exact ⟨rfl, rfl⟩
theorem ssign_calls (w : World) : Calls Tryd.prog 64 #[smallV] w (RetS w (.int .i64 31) #[.int .i64 24, .int .i64 (-149), .int .i64 104, .int .i64 23]) := by
  unfold smallV
  have hu := Tryd.underlying31
  go_enter Tryd.func64, Tryd.ntmps64
  go_wp2
  go_ret
  exact ⟨rfl, rfl⟩
theorem nan_calls (w : World) : Calls Tryd.prog 42 #[] w (RetX w (.float .f64 9221120237041090561)) := by
  have hf := f64frombits 9221120237041090561
  go_enter Tryd.func42, Tryd.ntmps42
  go_wp2
  go_ret
  exact ⟨rfl, rfl⟩
end Tt
