/- Floats by their bits: the program's sound. -/
import Derived.Test.YtjjnhmcoodahgaaDoorFlG
namespace Tt
open Go Go.RowKit Go.Proofs
set_option linter.unusedSimpArgs false
set_option linter.unusedVariables false
set_option maxRecDepth 100000

/-- Parts of some float. -/
def soundP (one low top k : Int) (neg : Bool) (m x : Int) : Prop :=
  ((k = 0 ∨ k = 3) ∧ m = 0 ∧ x = 0) ∨ (k = 4 ∧ neg = false ∧ m = 0 ∧ x = 0) ∨ (k = 1 ∧ 0 < m ∧ m < one ∧ x = low) ∨ (k = 2 ∧ one ≤ m ∧ m < 2 * one ∧ low ≤ x ∧ x ≤ top)

set_option maxHeartbeats 8000000 in
theorem soundW_calls (k : Int) (neg : Bool) (m x : Int) (h0 : 0 ≤ m) (h1 : m < 18446744073709551616) (w : World) (r : Bool) (hr : r = true ↔ soundP 4503599627370496 (-1074) 971 k neg m x) :
    Calls Tryd.prog 40 #[.agg #[.int .u64 53, .int .i64 (-1074), .int .i64 971], partsV k neg m x] w (RetV w (.bool r)) := by
  unfold partsV
  have hu := Tryd.underlying25
  have huf := Tryd.underlying68
  have HR := Lib.hid hr; clear hr
  rcases (by omega : k = 4 ∨ k = 3 ∨ k = 0 ∨ k = 1 ∨ k = 2 ∨ (k ≠ 0 ∧ k ≠ 1 ∧ k ≠ 2 ∧ k ≠ 3 ∧ k ≠ 4)) with rfl | rfl | rfl | rfl | rfl | ⟨hk0, hk1, hk2, hk3, hk4⟩
  · cases neg
    · go_enter Tryd.func40, Tryd.ntmps40
      go_wp2
      all_goals (go_ret; refine ⟨congrArg (fun z => Ending.returned (Value.bool z)) (Bool.eq_iff_iff.2 ?_), Step.of⟩; rw [HR.out]; unfold soundP; simp; try omega)
    · go_enter Tryd.func40, Tryd.ntmps40
      go_wp2
      all_goals (go_ret; refine ⟨congrArg (fun z => Ending.returned (Value.bool z)) (Bool.eq_iff_iff.2 ?_), Step.of⟩; rw [HR.out]; unfold soundP; simp; try omega)
  · go_enter Tryd.func40, Tryd.ntmps40
    go_wp2
    all_goals (go_ret; refine ⟨congrArg (fun z => Ending.returned (Value.bool z)) (Bool.eq_iff_iff.2 ?_), Step.of⟩; rw [HR.out]; unfold soundP; simp; try omega)
  · go_enter Tryd.func40, Tryd.ntmps40
    go_wp2
    all_goals (go_ret; refine ⟨congrArg (fun z => Ending.returned (Value.bool z)) (Bool.eq_iff_iff.2 ?_), Step.of⟩; rw [HR.out]; unfold soundP; simp; try omega)
  · go_enter Tryd.func40, Tryd.ntmps40
    go_wp2
    all_goals (go_ret; refine ⟨congrArg (fun z => Ending.returned (Value.bool z)) (Bool.eq_iff_iff.2 ?_), Step.of⟩; rw [HR.out]; unfold soundP; simp; try omega)
  · go_enter Tryd.func40, Tryd.ntmps40
    go_wp2
    all_goals (go_ret; refine ⟨congrArg (fun z => Ending.returned (Value.bool z)) (Bool.eq_iff_iff.2 ?_), Step.of⟩; rw [HR.out]; unfold soundP; simp; try omega)
  · have f0 : (k == 0) = false := beq_f hk0
    have f1 : (k == 1) = false := beq_f hk1
    have f2 : (k == 2) = false := beq_f hk2
    have f3 : (k == 3) = false := beq_f hk3
    have f4 : (k == 4) = false := beq_f hk4
    go_enter Tryd.func40, Tryd.ntmps40
    go_wp2
    (go_ret; refine ⟨congrArg (fun z => Ending.returned (Value.bool z)) (Bool.eq_iff_iff.2 ?_), Step.of⟩; rw [HR.out]; unfold soundP; simp; try omega)
set_option maxHeartbeats 8000000 in
theorem soundS_calls (k : Int) (neg : Bool) (m x : Int) (h0 : 0 ≤ m) (h1 : m < 18446744073709551616) (w : World) (r : Bool) (hr : r = true ↔ soundP 8388608 (-149) 104 k neg m x) :
    Calls Tryd.prog 40 #[.agg #[.int .u64 24, .int .i64 (-149), .int .i64 104], partsV k neg m x] w (RetV w (.bool r)) := by
  unfold partsV
  have hu := Tryd.underlying25
  have huf := Tryd.underlying68
  have HR := Lib.hid hr; clear hr
  rcases (by omega : k = 4 ∨ k = 3 ∨ k = 0 ∨ k = 1 ∨ k = 2 ∨ (k ≠ 0 ∧ k ≠ 1 ∧ k ≠ 2 ∧ k ≠ 3 ∧ k ≠ 4)) with rfl | rfl | rfl | rfl | rfl | ⟨hk0, hk1, hk2, hk3, hk4⟩
  · cases neg
    · go_enter Tryd.func40, Tryd.ntmps40
      go_wp2
      all_goals (go_ret; refine ⟨congrArg (fun z => Ending.returned (Value.bool z)) (Bool.eq_iff_iff.2 ?_), Step.of⟩; rw [HR.out]; unfold soundP; simp; try omega)
    · go_enter Tryd.func40, Tryd.ntmps40
      go_wp2
      all_goals (go_ret; refine ⟨congrArg (fun z => Ending.returned (Value.bool z)) (Bool.eq_iff_iff.2 ?_), Step.of⟩; rw [HR.out]; unfold soundP; simp; try omega)
  · go_enter Tryd.func40, Tryd.ntmps40
    go_wp2
    all_goals (go_ret; refine ⟨congrArg (fun z => Ending.returned (Value.bool z)) (Bool.eq_iff_iff.2 ?_), Step.of⟩; rw [HR.out]; unfold soundP; simp; try omega)
  · go_enter Tryd.func40, Tryd.ntmps40
    go_wp2
    all_goals (go_ret; refine ⟨congrArg (fun z => Ending.returned (Value.bool z)) (Bool.eq_iff_iff.2 ?_), Step.of⟩; rw [HR.out]; unfold soundP; simp; try omega)
  · go_enter Tryd.func40, Tryd.ntmps40
    go_wp2
    all_goals (go_ret; refine ⟨congrArg (fun z => Ending.returned (Value.bool z)) (Bool.eq_iff_iff.2 ?_), Step.of⟩; rw [HR.out]; unfold soundP; simp; try omega)
  · go_enter Tryd.func40, Tryd.ntmps40
    go_wp2
    all_goals (go_ret; refine ⟨congrArg (fun z => Ending.returned (Value.bool z)) (Bool.eq_iff_iff.2 ?_), Step.of⟩; rw [HR.out]; unfold soundP; simp; try omega)
  · have f0 : (k == 0) = false := beq_f hk0
    have f1 : (k == 1) = false := beq_f hk1
    have f2 : (k == 2) = false := beq_f hk2
    have f3 : (k == 3) = false := beq_f hk3
    have f4 : (k == 4) = false := beq_f hk4
    go_enter Tryd.func40, Tryd.ntmps40
    go_wp2
    (go_ret; refine ⟨congrArg (fun z => Ending.returned (Value.bool z)) (Bool.eq_iff_iff.2 ?_), Step.of⟩; rw [HR.out]; unfold soundP; simp; try omega)
end Tt
