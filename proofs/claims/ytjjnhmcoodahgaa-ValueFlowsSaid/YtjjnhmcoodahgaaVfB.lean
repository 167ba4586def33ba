/- ValueFlows: what a kind pays. -/
import Derived.Test.YtjjnhmcoodahgaaVfA
import Derived.Laws.ResultCell
import Derived.Laws.Rows
import Derived.Laws.EntriesVeiled
namespace Tt
open Go Go.RowKit Go.Proofs
set_option linter.unusedSimpArgs false
set_option linter.unusedVariables false
set_option maxRecDepth 100000
attribute [local go_sem] max2_int min2_int max_two min_two

def paysN (K W T S k t : Int) : Int :=
  (if (K = 1 ∨ K = 3) ∧ t = k + 1 ∧ W ≤ k ∧ k < W + T then 1 else if K = 6 ∧ t = k + 1 ∧ W ≤ k ∧ k < W + T then k - W + 1 else if K = 7 ∧ t = k + 1 ∧ W ≤ k ∧ k < W + T then W + T - k
    else if K = 4 ∧ W ≤ t ∧ t < W + T ∧ (t ≤ k ∨ t < W + S) then 1 else if K = 5 ∧ W < t ∧ t ≤ W + T ∧ (t ≤ k ∨ t ≤ W + S) then 1 else 0) + (if (K = 2 ∨ K = 3) ∧ t = W + T ∧ W + T ≤ k then 1 else 0)

set_option maxHeartbeats 40000000 in
theorem rpays1_calls (W T S k t : Int) (w : World) (m : Int) (hm : paysN 1 W T S k t = m) (hW : 0 ≤ W ∧ W ≤ 130) (hT : 0 ≤ T ∧ T ≤ 130) (hS : 0 ≤ S ∧ S ≤ T) (hk : 0 ≤ k ∧ k ≤ 130) (ht : 0 ≤ t ∧ t ≤ 260) :
    Calls Try.prog 31 #[ben 1 W T S, .int .i64 k, .int .i64 t] w (RetInt w m) := by
  unfold ben
  have hu := Try.underlying23
  have HM := Lib.hid hm; clear hm
  go_enter Try.func31, Try.ntmps31
  go_wp2
  all_goals (go_ret; exact ⟨congrArg (fun z => Ending.returned (Value.int .i64 z)) (by rw [← HM.out]; unfold paysN; (repeat' split) <;> omega), Step.of⟩)
set_option maxHeartbeats 40000000 in
theorem rpays2_calls (W T S k t : Int) (w : World) (m : Int) (hm : paysN 2 W T S k t = m) (hW : 0 ≤ W ∧ W ≤ 130) (hT : 0 ≤ T ∧ T ≤ 130) (hS : 0 ≤ S ∧ S ≤ T) (hk : 0 ≤ k ∧ k ≤ 130) (ht : 0 ≤ t ∧ t ≤ 260) :
    Calls Try.prog 31 #[ben 2 W T S, .int .i64 k, .int .i64 t] w (RetInt w m) := by
  unfold ben
  have hu := Try.underlying23
  have HM := Lib.hid hm; clear hm
  go_enter Try.func31, Try.ntmps31
  go_wp2
  all_goals (go_ret; exact ⟨congrArg (fun z => Ending.returned (Value.int .i64 z)) (by rw [← HM.out]; unfold paysN; (repeat' split) <;> omega), Step.of⟩)
set_option maxHeartbeats 40000000 in
theorem rpays3_calls (W T S k t : Int) (w : World) (m : Int) (hm : paysN 3 W T S k t = m) (hW : 0 ≤ W ∧ W ≤ 130) (hT : 0 ≤ T ∧ T ≤ 130) (hS : 0 ≤ S ∧ S ≤ T) (hk : 0 ≤ k ∧ k ≤ 130) (ht : 0 ≤ t ∧ t ≤ 260) :
    Calls Try.prog 31 #[ben 3 W T S, .int .i64 k, .int .i64 t] w (RetInt w m) := by
  unfold ben
  have hu := Try.underlying23
  have HM := Lib.hid hm; clear hm
  go_enter Try.func31, Try.ntmps31
  go_wp2
  all_goals (go_ret; exact ⟨congrArg (fun z => Ending.returned (Value.int .i64 z)) (by rw [← HM.out]; unfold paysN; (repeat' split) <;> omega), Step.of⟩)
set_option maxHeartbeats 40000000 in
theorem rpays4_calls (W T S k t : Int) (w : World) (m : Int) (hm : paysN 4 W T S k t = m) (hW : 0 ≤ W ∧ W ≤ 130) (hT : 0 ≤ T ∧ T ≤ 130) (hS : 0 ≤ S ∧ S ≤ T) (hk : 0 ≤ k ∧ k ≤ 130) (ht : 0 ≤ t ∧ t ≤ 260) :
    Calls Try.prog 31 #[ben 4 W T S, .int .i64 k, .int .i64 t] w (RetInt w m) := by
  unfold ben
  have hu := Try.underlying23
  have HM := Lib.hid hm; clear hm
  go_enter Try.func31, Try.ntmps31
  go_wp2
  all_goals (go_ret; exact ⟨congrArg (fun z => Ending.returned (Value.int .i64 z)) (by rw [← HM.out]; unfold paysN; (repeat' split) <;> omega), Step.of⟩)
set_option maxHeartbeats 40000000 in
theorem rpays5_calls (W T S k t : Int) (w : World) (m : Int) (hm : paysN 5 W T S k t = m) (hW : 0 ≤ W ∧ W ≤ 130) (hT : 0 ≤ T ∧ T ≤ 130) (hS : 0 ≤ S ∧ S ≤ T) (hk : 0 ≤ k ∧ k ≤ 130) (ht : 0 ≤ t ∧ t ≤ 260) :
    Calls Try.prog 31 #[ben 5 W T S, .int .i64 k, .int .i64 t] w (RetInt w m) := by
  unfold ben
  have hu := Try.underlying23
  have HM := Lib.hid hm; clear hm
  go_enter Try.func31, Try.ntmps31
  go_wp2
  all_goals (go_ret; exact ⟨congrArg (fun z => Ending.returned (Value.int .i64 z)) (by rw [← HM.out]; unfold paysN; (repeat' split) <;> omega), Step.of⟩)
set_option maxHeartbeats 40000000 in
theorem rpays6_calls (W T S k t : Int) (w : World) (m : Int) (hm : paysN 6 W T S k t = m) (hW : 0 ≤ W ∧ W ≤ 130) (hT : 0 ≤ T ∧ T ≤ 130) (hS : 0 ≤ S ∧ S ≤ T) (hk : 0 ≤ k ∧ k ≤ 130) (ht : 0 ≤ t ∧ t ≤ 260) :
    Calls Try.prog 31 #[ben 6 W T S, .int .i64 k, .int .i64 t] w (RetInt w m) := by
  unfold ben
  have hu := Try.underlying23
  have HM := Lib.hid hm; clear hm
  go_enter Try.func31, Try.ntmps31
  go_wp2
  all_goals (go_ret; exact ⟨congrArg (fun z => Ending.returned (Value.int .i64 z)) (by rw [← HM.out]; unfold paysN; (repeat' split) <;> omega), Step.of⟩)
set_option maxHeartbeats 40000000 in
theorem rpays7_calls (W T S k t : Int) (w : World) (m : Int) (hm : paysN 7 W T S k t = m) (hW : 0 ≤ W ∧ W ≤ 130) (hT : 0 ≤ T ∧ T ≤ 130) (hS : 0 ≤ S ∧ S ≤ T) (hk : 0 ≤ k ∧ k ≤ 130) (ht : 0 ≤ t ∧ t ≤ 260) :
    Calls Try.prog 31 #[ben 7 W T S, .int .i64 k, .int .i64 t] w (RetInt w m) := by
  unfold ben
  have hu := Try.underlying23
  have HM := Lib.hid hm; clear hm
  go_enter Try.func31, Try.ntmps31
  go_wp2
  all_goals (go_ret; exact ⟨congrArg (fun z => Ending.returned (Value.int .i64 z)) (by rw [← HM.out]; unfold paysN; (repeat' split) <;> omega), Step.of⟩)
theorem run_index_array {P : Program} {w : World} (t e : TypeId) (n : Nat) (cs : Array Value) (k : IntKind) (i : Int) (h : P.underlying t = some (.array n e)) (h0 : 0 ≤ i) (h1 : i < n) :
    (Instr.index t (.agg cs) (.int k i)).run P w = ((Go.sizeOf e).run P w).andThen fun s w => (part e cs (i.toNat * s)).run P w := by
  simp [Instr.index, run_underlying h, asIntOf, h0, h1]
/-- What a kind pays: two functions. -/
def RetKind (w : World) (d a : Nat) (e : Ending) (w' : World) : Prop := ∃ v, e = .returned v ∧ v = .agg #[.func (.func d) #[] #[], .func (.func a) #[] #[]] ∧ w' = w.alloc (.cells #[.func (.func d) #[] #[], .func (.func a) #[] #[]] 118)
theorem kinds1_calls (w : World) : Calls Try.prog 61 #[.int .i64 1] w (RetKind w 86 87) := by
  have hu := Try.underlying118
  have hu8 := Try.underlying142
  have hix := fun (cs : Array Value) (w : World) => run_index_array (P := Try.prog) (w := w) 142 118 8 cs .i64 1 hu8 (by omega) (by omega)
  go_enter Try.func61, Try.ntmps61
  go_wp2
  refine bodyPost_ret (results_cell_row rfl _ _ w.heap.size 118 #[.func (.func 86) #[] #[], .func (.func 87) #[] #[]] (0, 0) _ rfl ?hg hu rfl rfl) rfl ?_
  case hg => exact heap_alloc_new _ _
  exact ⟨_, rfl, rfl, rfl⟩
theorem kinds2_calls (w : World) : Calls Try.prog 61 #[.int .i64 2] w (RetKind w 87 88) := by
  have hu := Try.underlying118
  have hu8 := Try.underlying142
  have hix := fun (cs : Array Value) (w : World) => run_index_array (P := Try.prog) (w := w) 142 118 8 cs .i64 2 hu8 (by omega) (by omega)
  go_enter Try.func61, Try.ntmps61
  go_wp2
  refine bodyPost_ret (results_cell_row rfl _ _ w.heap.size 118 #[.func (.func 87) #[] #[], .func (.func 88) #[] #[]] (0, 0) _ rfl ?hg hu rfl rfl) rfl ?_
  case hg => exact heap_alloc_new _ _
  exact ⟨_, rfl, rfl, rfl⟩
theorem kinds3_calls (w : World) : Calls Try.prog 61 #[.int .i64 3] w (RetKind w 86 88) := by
  have hu := Try.underlying118
  have hu8 := Try.underlying142
  have hix := fun (cs : Array Value) (w : World) => run_index_array (P := Try.prog) (w := w) 142 118 8 cs .i64 3 hu8 (by omega) (by omega)
  go_enter Try.func61, Try.ntmps61
  go_wp2
  refine bodyPost_ret (results_cell_row rfl _ _ w.heap.size 118 #[.func (.func 86) #[] #[], .func (.func 88) #[] #[]] (0, 0) _ rfl ?hg hu rfl rfl) rfl ?_
  case hg => exact heap_alloc_new _ _
  exact ⟨_, rfl, rfl, rfl⟩
theorem kinds4_calls (w : World) : Calls Try.prog 61 #[.int .i64 4] w (RetKind w 87 89) := by
  have hu := Try.underlying118
  have hu8 := Try.underlying142
  have hix := fun (cs : Array Value) (w : World) => run_index_array (P := Try.prog) (w := w) 142 118 8 cs .i64 4 hu8 (by omega) (by omega)
  go_enter Try.func61, Try.ntmps61
  go_wp2
  refine bodyPost_ret (results_cell_row rfl _ _ w.heap.size 118 #[.func (.func 87) #[] #[], .func (.func 89) #[] #[]] (0, 0) _ rfl ?hg hu rfl rfl) rfl ?_
  case hg => exact heap_alloc_new _ _
  exact ⟨_, rfl, rfl, rfl⟩
theorem kinds5_calls (w : World) : Calls Try.prog 61 #[.int .i64 5] w (RetKind w 87 90) := by
  have hu := Try.underlying118
  have hu8 := Try.underlying142
  have hix := fun (cs : Array Value) (w : World) => run_index_array (P := Try.prog) (w := w) 142 118 8 cs .i64 5 hu8 (by omega) (by omega)
  go_enter Try.func61, Try.ntmps61
  go_wp2
  refine bodyPost_ret (results_cell_row rfl _ _ w.heap.size 118 #[.func (.func 87) #[] #[], .func (.func 90) #[] #[]] (0, 0) _ rfl ?hg hu rfl rfl) rfl ?_
  case hg => exact heap_alloc_new _ _
  exact ⟨_, rfl, rfl, rfl⟩
theorem kinds6_calls (w : World) : Calls Try.prog 61 #[.int .i64 6] w (RetKind w 91 87) := by
  have hu := Try.underlying118
  have hu8 := Try.underlying142
  have hix := fun (cs : Array Value) (w : World) => run_index_array (P := Try.prog) (w := w) 142 118 8 cs .i64 6 hu8 (by omega) (by omega)
  go_enter Try.func61, Try.ntmps61
  go_wp2
  refine bodyPost_ret (results_cell_row rfl _ _ w.heap.size 118 #[.func (.func 91) #[] #[], .func (.func 87) #[] #[]] (0, 0) _ rfl ?hg hu rfl rfl) rfl ?_
  case hg => exact heap_alloc_new _ _
  exact ⟨_, rfl, rfl, rfl⟩
theorem kinds7_calls (w : World) : Calls Try.prog 61 #[.int .i64 7] w (RetKind w 92 87) := by
  have hu := Try.underlying118
  have hu8 := Try.underlying142
  have hix := fun (cs : Array Value) (w : World) => run_index_array (P := Try.prog) (w := w) 142 118 8 cs .i64 7 hu8 (by omega) (by omega)
  go_enter Try.func61, Try.ntmps61
  go_wp2
  refine bodyPost_ret (results_cell_row rfl _ _ w.heap.size 118 #[.func (.func 92) #[] #[], .func (.func 87) #[] #[]] (0, 0) _ rfl ?hg hu rfl rfl) rfl ?_
  case hg => exact heap_alloc_new _ _
  exact ⟨_, rfl, rfl, rfl⟩
end Tt
