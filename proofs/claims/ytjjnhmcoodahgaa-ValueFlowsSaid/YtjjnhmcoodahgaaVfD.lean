/- ValueFlows: how often, the annuities. -/
import Derived.Test.YtjjnhmcoodahgaaVfB
import Derived.Deep.RegionHeld3
import Derived.IntWalk
namespace Tt
open Go Go.RowKit Go.Proofs
set_option linter.unusedSimpArgs false
set_option linter.unusedVariables false
set_option maxRecDepth 100000
attribute [local go_sem] max2_int min2_int max_two min_two

set_option maxHeartbeats 40000000 in
theorem often4_calls (W T S k t : Int) (w : World) (m : Int) (hm : paysN 4 W T S k t = m) (hW : 0 ≤ W ∧ W ≤ 130) (hT : 0 ≤ T ∧ T ≤ 130) (hS : 0 ≤ S ∧ S ≤ T) (hk : 0 ≤ k ∧ k ≤ 130) (ht : 0 ≤ t ∧ t ≤ 260) :
    Calls Try.prog 30 #[ben 4 W T S, .int .i64 k, .int .i64 t] w (RetInt w m) := by
  unfold ben
  have hu := Try.underlying23
  have hup := Try.underlying118
  have HM := Lib.hid hm; clear hm
  have i1 := IntWalk.i64_in (W + T) (by omega)
  go_enter Try.func30, Try.ntmps30
  go_upto_region 1 with (fail)
  go_region_held3 (fun w' => w'.cell? ⟨w.heap.size, 0, none⟩ = some (.int .i64 4) ∧ w'.cell? ⟨w.heap.size, 1, none⟩ = some (.int .i64 W) ∧ w'.cell? ⟨w.heap.size, 2, none⟩ = some (.int .i64 T)) (go_keep)
    (first | (go_at_call 61; refine use (kinds4_calls _) ?_; rintro e w1 ⟨v, rfl, rfl, rfl⟩))
  all_goals go_wp2
  all_goals (go_ret; (try simp only [beq_eq_false_iff_ne, beq_iff_eq] at *); exact ⟨congrArg (fun z => Ending.returned (Value.int .i64 z)) (by rw [← HM.out]; unfold paysN; (repeat' split) <;> omega), Step.of⟩)
set_option maxHeartbeats 40000000 in
theorem often5_calls (W T S k t : Int) (w : World) (m : Int) (hm : paysN 5 W T S k t = m) (hW : 0 ≤ W ∧ W ≤ 130) (hT : 0 ≤ T ∧ T ≤ 130) (hS : 0 ≤ S ∧ S ≤ T) (hk : 0 ≤ k ∧ k ≤ 130) (ht : 0 ≤ t ∧ t ≤ 260) :
    Calls Try.prog 30 #[ben 5 W T S, .int .i64 k, .int .i64 t] w (RetInt w m) := by
  unfold ben
  have hu := Try.underlying23
  have hup := Try.underlying118
  have HM := Lib.hid hm; clear hm
  have i1 := IntWalk.i64_in (W + T) (by omega)
  go_enter Try.func30, Try.ntmps30
  go_upto_region 1 with (fail)
  go_region_held3 (fun w' => w'.cell? ⟨w.heap.size, 0, none⟩ = some (.int .i64 5) ∧ w'.cell? ⟨w.heap.size, 1, none⟩ = some (.int .i64 W) ∧ w'.cell? ⟨w.heap.size, 2, none⟩ = some (.int .i64 T)) (go_keep)
    (first | (go_at_call 61; refine use (kinds5_calls _) ?_; rintro e w1 ⟨v, rfl, rfl, rfl⟩))
  all_goals go_wp2
  all_goals (go_ret; (try simp only [beq_eq_false_iff_ne, beq_iff_eq] at *); exact ⟨congrArg (fun z => Ending.returned (Value.int .i64 z)) (by rw [← HM.out]; unfold paysN; (repeat' split) <;> omega), Step.of⟩)
end Tt
