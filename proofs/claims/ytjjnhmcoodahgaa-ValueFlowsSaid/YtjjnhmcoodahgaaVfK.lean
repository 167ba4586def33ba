/- ValueFlows: Check, twice. -/
import Derived.Test.YtjjnhmcoodahgaaVfA
namespace Tt
open Go Go.RowKit Go.Proofs
set_option linter.unusedSimpArgs false
set_option linter.unusedVariables false
set_option maxRecDepth 100000
attribute [local go_sem] max2_int min2_int max_two min_two

set_option maxHeartbeats 40000000 in
theorem vcheck_calls (K W T S : Int) (w : World) (m : Int) (hm : (if badB K W T S = true then 130 else 0) = m) :
    Calls Try.prog 9 #[ben K W T S] w (RetInt w m) := by
  unfold ben
  have hu := Try.underlying23
  have HM := Lib.hid hm; clear hm
  go_enter Try.func9, Try.ntmps9
  go_upto_region 1 with (fail)
  go_cut [3] (fun v3 wc => v3 = .bool (K == 4 || K == 5) ∧ wc = w.alloc (.cells #[.int .i64 K, .int .i64 W, .int .i64 T, .int .i64 S] 23))
  case first =>
    rcases (by omega : (4 ≤ K ∧ K ≤ 4) ∨ (5 ≤ K ∧ K ≤ 5) ∨ (K ≠ 4 ∧ K ≠ 5)) with k4 | k5 | ⟨k4, k5⟩
    · have g4 : (K == 4) = true := beq_t (by omega)
      go_wp2
      go_meet
      case rel => exact ⟨by simp [g4], rfl⟩
    · have g4 : (K == 4) = false := beq_f (by omega)
      have g5 : (K == 5) = true := beq_t (by omega)
      go_wp2
      go_meet
      case rel => exact ⟨by simp [g4, g5], rfl⟩
    · have g4 : (K == 4) = false := beq_f (by omega)
      have g5 : (K == 5) = false := beq_f (by omega)
      go_wp2
      go_meet
      case rel => exact ⟨by simp [g4, g5], rfl⟩
  case rest =>
    obtain ⟨rfl, rfl⟩ := hcut
    have hm := HM.out
    clear HM
    by_cases a0 : K < 1
    · have hr : badB K W T S = true := by simp only [badB, Bool.or_eq_true, decide_eq_true_eq]; omega
      rw [if_pos hr] at hm; obtain rfl := hm
      clear hr
      have c0 : decide (K < 1) = true := decide_eq_true (by omega)
      go_wp2_with (first | (go_at_call 29; refine use (vyear_calls W _ _ hW) ?_; rintro e w1 ⟨rfl, rfl⟩) | (go_at_call 29; refine use (vyear_calls T _ _ hT) ?_; rintro e w2 ⟨rfl, rfl⟩))
      go_ret
      exact ⟨rfl, Step.of⟩
    have c0 : decide (K < 1) = false := decide_eq_false (by omega)
    by_cases a1 : 7 < K
    · have hr : badB K W T S = true := by simp only [badB, Bool.or_eq_true, decide_eq_true_eq]; omega
      rw [if_pos hr] at hm; obtain rfl := hm
      clear hr
      have c1 : decide (7 < K) = true := decide_eq_true (by omega)
      go_wp2_with (first | (go_at_call 29; refine use (vyear_calls W _ _ hW) ?_; rintro e w1 ⟨rfl, rfl⟩) | (go_at_call 29; refine use (vyear_calls T _ _ hT) ?_; rintro e w2 ⟨rfl, rfl⟩))
      go_ret
      exact ⟨rfl, Step.of⟩
    have c1 : decide (7 < K) = false := decide_eq_false (by omega)
    by_cases a2 : ¬(0 ≤ W ∧ W ≤ 130)
    · have hr : badB K W T S = true := by simp only [badB, Bool.or_eq_true, decide_eq_true_eq]; omega
      rw [if_pos hr] at hm; obtain rfl := hm
      clear hr
      have hW : (decide (0 ≤ W) && decide (W ≤ 130)) = false := by simp; omega
      go_wp2_with (first | (go_at_call 29; refine use (vyear_calls W _ _ hW) ?_; rintro e w1 ⟨rfl, rfl⟩) | (go_at_call 29; refine use (vyear_calls T _ _ hT) ?_; rintro e w2 ⟨rfl, rfl⟩))
      go_ret
      exact ⟨rfl, Step.of⟩
    have hW : (decide (0 ≤ W) && decide (W ≤ 130)) = true := by simp; omega
    by_cases a3 : ¬(0 ≤ T ∧ T ≤ 130)
    · have hr : badB K W T S = true := by simp only [badB, Bool.or_eq_true, decide_eq_true_eq]; omega
      rw [if_pos hr] at hm; obtain rfl := hm
      clear hr
      have hT : (decide (0 ≤ T) && decide (T ≤ 130)) = false := by simp; omega
      go_wp2_with (first | (go_at_call 29; refine use (vyear_calls W _ _ hW) ?_; rintro e w1 ⟨rfl, rfl⟩) | (go_at_call 29; refine use (vyear_calls T _ _ hT) ?_; rintro e w2 ⟨rfl, rfl⟩))
      go_ret
      exact ⟨rfl, Step.of⟩
    have hT : (decide (0 ≤ T) && decide (T ≤ 130)) = true := by simp; omega
    by_cases a4 : T ≤ 0
    · have hr : badB K W T S = true := by simp only [badB, Bool.or_eq_true, decide_eq_true_eq]; omega
      rw [if_pos hr] at hm; obtain rfl := hm
      clear hr
      have c4 : (T == 0) = true := beq_t (by omega)
      go_wp2_with (first | (go_at_call 29; refine use (vyear_calls W _ _ hW) ?_; rintro e w1 ⟨rfl, rfl⟩) | (go_at_call 29; refine use (vyear_calls T _ _ hT) ?_; rintro e w2 ⟨rfl, rfl⟩))
      go_ret
      exact ⟨rfl, Step.of⟩
    have c4 : (T == 0) = false := beq_f (by omega)
    by_cases a5 : S < 0
    · have hr : badB K W T S = true := by simp only [badB, Bool.or_eq_true, decide_eq_true_eq]; omega
      rw [if_pos hr] at hm; obtain rfl := hm
      clear hr
      have c5 : decide (S < 0) = true := decide_eq_true (by omega)
      go_wp2_with (first | (go_at_call 29; refine use (vyear_calls W _ _ hW) ?_; rintro e w1 ⟨rfl, rfl⟩) | (go_at_call 29; refine use (vyear_calls T _ _ hT) ?_; rintro e w2 ⟨rfl, rfl⟩))
      go_ret
      exact ⟨rfl, Step.of⟩
    have c5 : decide (S < 0) = false := decide_eq_false (by omega)
    by_cases a6 : T < S
    · have hr : badB K W T S = true := by simp only [badB, Bool.or_eq_true, decide_eq_true_eq]; omega
      rw [if_pos hr] at hm; obtain rfl := hm
      clear hr
      have c6 : decide (T < S) = true := decide_eq_true (by omega)
      go_wp2_with (first | (go_at_call 29; refine use (vyear_calls W _ _ hW) ?_; rintro e w1 ⟨rfl, rfl⟩) | (go_at_call 29; refine use (vyear_calls T _ _ hT) ?_; rintro e w2 ⟨rfl, rfl⟩))
      go_ret
      exact ⟨rfl, Step.of⟩
    have c6 : decide (T < S) = false := decide_eq_false (by omega)
    by_cases z : 0 < S
    · have hz : decide (0 < S) = true := decide_eq_true z
      rcases Bool.eq_false_or_eq_true (K == 4 || K == 5) with g | g
      · have hr : badB K W T S = false := by rw [Bool.eq_false_iff]; intro h; simp only [badB, g, Bool.or_eq_true, Bool.and_eq_true, decide_eq_true_eq] at h; simp at h; omega
        rw [if_neg (by rw [hr]; simp)] at hm; obtain rfl := hm
        clear hr
        rw [g]
        go_wp2_with (first | (go_at_call 29; refine use (vyear_calls W _ _ hW) ?_; rintro e w1 ⟨rfl, rfl⟩) | (go_at_call 29; refine use (vyear_calls T _ _ hT) ?_; rintro e w2 ⟨rfl, rfl⟩))
        go_ret
        exact ⟨rfl, Step.of⟩
      · have hr : badB K W T S = true := by simp only [badB, g]; simp [z]
        rw [if_pos hr] at hm; obtain rfl := hm
        clear hr
        rw [g]
        go_wp2_with (first | (go_at_call 29; refine use (vyear_calls W _ _ hW) ?_; rintro e w1 ⟨rfl, rfl⟩) | (go_at_call 29; refine use (vyear_calls T _ _ hT) ?_; rintro e w2 ⟨rfl, rfl⟩))
        go_ret
        exact ⟨rfl, Step.of⟩
    · have hz : decide (0 < S) = false := decide_eq_false z
      have hr : badB K W T S = false := by rw [Bool.eq_false_iff]; intro h; simp only [badB, hz, Bool.or_eq_true, Bool.and_eq_true, decide_eq_true_eq] at h; simp at h; omega
      rw [if_neg (by rw [hr]; simp)] at hm; obtain rfl := hm
      clear hr
      go_wp2_with (first | (go_at_call 29; refine use (vyear_calls W _ _ hW) ?_; rintro e w1 ⟨rfl, rfl⟩) | (go_at_call 29; refine use (vyear_calls T _ _ hT) ?_; rintro e w2 ⟨rfl, rfl⟩))
      go_ret
      exact ⟨rfl, Step.of⟩
set_option maxHeartbeats 40000000 in
theorem rcheck_calls (K W T S : Int) (w : World) (m : Int) (hm : (if badB K W T S = true then 130 else 0) = m) :
    Calls Try.prog 10 #[ben K W T S] w (RetInt w m) := by
  unfold ben
  have hu := Try.underlying23
  have HM := Lib.hid hm; clear hm
  go_enter Try.func10, Try.ntmps10
  go_upto_region 1 with (fail)
  go_cut [3] (fun v3 wc => v3 = .bool (K == 4 || K == 5) ∧ wc = w.alloc (.cells #[.int .i64 K, .int .i64 W, .int .i64 T, .int .i64 S] 23))
  case first =>
    rcases (by omega : (4 ≤ K ∧ K ≤ 4) ∨ (5 ≤ K ∧ K ≤ 5) ∨ (K ≠ 4 ∧ K ≠ 5)) with k4 | k5 | ⟨k4, k5⟩
    · have g4 : (K == 4) = true := beq_t (by omega)
      go_wp2
      go_meet
      case rel => exact ⟨by simp [g4], rfl⟩
    · have g4 : (K == 4) = false := beq_f (by omega)
      have g5 : (K == 5) = true := beq_t (by omega)
      go_wp2
      go_meet
      case rel => exact ⟨by simp [g4, g5], rfl⟩
    · have g4 : (K == 4) = false := beq_f (by omega)
      have g5 : (K == 5) = false := beq_f (by omega)
      go_wp2
      go_meet
      case rel => exact ⟨by simp [g4, g5], rfl⟩
  case rest =>
    obtain ⟨rfl, rfl⟩ := hcut
    have hm := HM.out
    clear HM
    by_cases a0 : K < 1
    · have hr : badB K W T S = true := by simp only [badB, Bool.or_eq_true, decide_eq_true_eq]; omega
      rw [if_pos hr] at hm; obtain rfl := hm
      clear hr
      have c0 : decide (K < 1) = true := decide_eq_true (by omega)
      go_wp2
      go_ret
      exact ⟨rfl, Step.of⟩
    have c0 : decide (K < 1) = false := decide_eq_false (by omega)
    by_cases a1 : 7 < K
    · have hr : badB K W T S = true := by simp only [badB, Bool.or_eq_true, decide_eq_true_eq]; omega
      rw [if_pos hr] at hm; obtain rfl := hm
      clear hr
      have c1 : decide (7 < K) = true := decide_eq_true (by omega)
      go_wp2
      go_ret
      exact ⟨rfl, Step.of⟩
    have c1 : decide (7 < K) = false := decide_eq_false (by omega)
    by_cases a2 : W < 0
    · have hr : badB K W T S = true := by simp only [badB, Bool.or_eq_true, decide_eq_true_eq]; omega
      rw [if_pos hr] at hm; obtain rfl := hm
      clear hr
      have c2 : decide (W < 0) = true := decide_eq_true (by omega)
      go_wp2
      go_ret
      exact ⟨rfl, Step.of⟩
    have c2 : decide (W < 0) = false := decide_eq_false (by omega)
    by_cases a3 : 130 < W
    · have hr : badB K W T S = true := by simp only [badB, Bool.or_eq_true, decide_eq_true_eq]; omega
      rw [if_pos hr] at hm; obtain rfl := hm
      clear hr
      have c3 : decide (130 < W) = true := decide_eq_true (by omega)
      go_wp2
      go_ret
      exact ⟨rfl, Step.of⟩
    have c3 : decide (130 < W) = false := decide_eq_false (by omega)
    by_cases a4 : T < 1
    · have hr : badB K W T S = true := by simp only [badB, Bool.or_eq_true, decide_eq_true_eq]; omega
      rw [if_pos hr] at hm; obtain rfl := hm
      clear hr
      have c4 : decide (T < 1) = true := decide_eq_true (by omega)
      go_wp2
      go_ret
      exact ⟨rfl, Step.of⟩
    have c4 : decide (T < 1) = false := decide_eq_false (by omega)
    by_cases a5 : 130 < T
    · have hr : badB K W T S = true := by simp only [badB, Bool.or_eq_true, decide_eq_true_eq]; omega
      rw [if_pos hr] at hm; obtain rfl := hm
      clear hr
      have c7 : decide (130 < T) = true := decide_eq_true (by omega)
      go_wp2
      go_ret
      exact ⟨rfl, Step.of⟩
    have c7 : decide (130 < T) = false := decide_eq_false (by omega)
    by_cases a6 : S < 0
    · have hr : badB K W T S = true := by simp only [badB, Bool.or_eq_true, decide_eq_true_eq]; omega
      rw [if_pos hr] at hm; obtain rfl := hm
      clear hr
      have c5 : decide (S < 0) = true := decide_eq_true (by omega)
      go_wp2
      go_ret
      exact ⟨rfl, Step.of⟩
    have c5 : decide (S < 0) = false := decide_eq_false (by omega)
    by_cases a7 : T < S
    · have hr : badB K W T S = true := by simp only [badB, Bool.or_eq_true, decide_eq_true_eq]; omega
      rw [if_pos hr] at hm; obtain rfl := hm
      clear hr
      have c6 : decide (T < S) = true := decide_eq_true (by omega)
      go_wp2
      go_ret
      exact ⟨rfl, Step.of⟩
    have c6 : decide (T < S) = false := decide_eq_false (by omega)
    by_cases z : 0 < S
    · have hz : decide (0 < S) = true := decide_eq_true z
      rcases Bool.eq_false_or_eq_true (K == 4 || K == 5) with g | g
      · have hr : badB K W T S = false := by rw [Bool.eq_false_iff]; intro h; simp only [badB, g, Bool.or_eq_true, Bool.and_eq_true, decide_eq_true_eq] at h; simp at h; omega
        rw [if_neg (by rw [hr]; simp)] at hm; obtain rfl := hm
        clear hr
        rw [g]
        go_wp2
        go_ret
        exact ⟨rfl, Step.of⟩
      · have hr : badB K W T S = true := by simp only [badB, g]; simp [z]
        rw [if_pos hr] at hm; obtain rfl := hm
        clear hr
        rw [g]
        go_wp2
        go_ret
        exact ⟨rfl, Step.of⟩
    · have hz : decide (0 < S) = false := decide_eq_false z
      have hr : badB K W T S = false := by rw [Bool.eq_false_iff]; intro h; simp only [badB, hz, Bool.or_eq_true, Bool.and_eq_true, decide_eq_true_eq] at h; simp at h; omega
      rw [if_neg (by rw [hr]; simp)] at hm; obtain rfl := hm
      clear hr
      go_wp2
      go_ret
      exact ⟨rfl, Step.of⟩

end Tt
