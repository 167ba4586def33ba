/- ValueFlows: the small functions. -/
import Derived.Test.YtjjnhmcoodahgaaMem
import Derived.Test.YtjjnhmcoodahgaaProg
import Derived.KernelRfl
import Derived.RowKit3
import Derived.Deep.LoopGhost
import Derived.Deep.DeepCutAuto
import Derived.Deep.CutBlock
import Derived.Deep.QuietTactic
import Derived.BigQuiet
import Derived.WideLaws
import Derived.Outline
import Derived.Lib.Hide
import Derived.WalkLawsBesides
import Derived.WalkSpells
namespace Tt
open Go Go.RowKit Go.Proofs
set_option linter.unusedSimpArgs false
set_option linter.unusedVariables false
set_option maxRecDepth 100000
attribute [local go_sem] max2_int min2_int max_two min_two

/-- The guard's true tests, one after another. -/
def badB (K W T S : Int) : Bool := decide (K < 1) || decide (7 < K) || decide (W < 0) || decide (130 < W) || decide (T < 1) || decide (130 < T) || decide (S < 0) || decide (T < S) || (decide (0 < S) && !(K == 4 || K == 5))
def ben (K W T S : Int) : Value := .agg #[.int .i64 K, .int .i64 W, .int .i64 T, .int .i64 S]

/-- Nothing is changed, nothing is made. -/
def SameInt (w : World) (n : Int) (e : Ending) (w' : World) : Prop := e = .returned (.int .i64 n) ∧ w = w'
def SameBool (w : World) (b : Bool) (e : Ending) (w' : World) : Prop := e = .returned (.bool b) ∧ w = w'
theorem vnames_calls (w : World) : Calls Try.prog 6 #[] w (SameBool w true) := by
  go_enter Try.func6, Try.ntmps6
  go_wp2
  go_ret
  exact ⟨rfl, rfl⟩
theorem vyear_calls (n : Int) (w : World) (b : Bool) (hb : (decide (0 ≤ n) && decide (n ≤ 130)) = b) : Calls Try.prog 29 #[.int .i64 n] w (SameBool w b) := by
  have HB := Lib.hid hb; clear hb
  by_cases h : 0 ≤ n
  · have f : decide (0 ≤ n) = true := by simp [h]
    go_enter Try.func29, Try.ntmps29
    go_wp2
    go_ret
    exact ⟨by rw [← HB.out, f]; rfl, rfl⟩
  · have f : decide (0 ≤ n) = false := by simp [h]
    go_enter Try.func29, Try.ntmps29
    go_wp2
    go_ret
    exact ⟨by rw [← HB.out, f]; rfl, rfl⟩
theorem only_calls (b : Bool) (w : World) (m : Int) (hm : (if b = true then 1 else 0) = m) : Calls Try.prog 109 #[.bool b] w (SameInt w m) := by
  subst hm
  cases b
  · go_enter Try.func109, Try.ntmps109
    go_wp2
    go_ret
    exact ⟨rfl, rfl⟩
  · go_enter Try.func109, Try.ntmps109
    go_wp2
    go_ret
    exact ⟨rfl, rfl⟩

theorem death_calls (k W E : Int) (w : World) (m : Int) (hm : (if W ≤ k ∧ k < E then 1 else 0) = m) : Calls Try.prog 86 #[.int .i64 k, .int .i64 W, .int .i64 E] w (SameInt w m) := by
  have hm2 : m = if decide (W ≤ k) = true then (if decide (k < E) = true then 1 else 0) else 0 := by rw [← hm]; by_cases a : W ≤ k <;> by_cases b : k < E <;> simp [a, b]
  clear hm
  rcases Bool.eq_false_or_eq_true (decide (W ≤ k)) with f | f
  · rcases Bool.eq_false_or_eq_true (decide (k < E)) with g | g
    · obtain rfl : m = 1 := by rw [hm2, if_pos f, if_pos g]
      clear hm2
      go_enter Try.func86, Try.ntmps86
      go_wp2_with fail
      refine use (only_calls true _ _ rfl) ?_
      rintro e w1 ⟨rfl, rfl⟩
      go_wp2
      go_ret
      exact ⟨rfl, rfl⟩
    · obtain rfl : m = 0 := by rw [hm2, if_pos f, g]; rfl
      clear hm2
      go_enter Try.func86, Try.ntmps86
      go_wp2_with fail
      refine use (only_calls false _ _ rfl) ?_
      rintro e w1 ⟨rfl, rfl⟩
      go_wp2
      go_ret
      exact ⟨rfl, rfl⟩
  · obtain rfl : m = 0 := by rw [hm2, f]; rfl
    clear hm2
    go_enter Try.func86, Try.ntmps86
    go_wp2_with fail
    refine use (only_calls false _ _ rfl) ?_
    rintro e w1 ⟨rfl, rfl⟩
    go_wp2
    go_ret
    exact ⟨rfl, rfl⟩
theorem nothing_calls (k W E : Int) (w : World) : Calls Try.prog 87 #[.int .i64 k, .int .i64 W, .int .i64 E] w (SameInt w 0) := by
  go_enter Try.func87, Try.ntmps87
  go_wp2
  go_ret
  exact ⟨rfl, rfl⟩
theorem ends_calls (k W E : Int) (w : World) (m : Int) (hm : (if k = E then 1 else 0) = m) : Calls Try.prog 88 #[.int .i64 k, .int .i64 W, .int .i64 E] w (SameInt w m) := by
  by_cases h : k = E
  · obtain rfl : m = 1 := by rw [← hm, if_pos h]
    clear hm
    have f : (k == E) = true := beq_t h
    go_enter Try.func88, Try.ntmps88
    go_wp2_with fail
    refine use (only_calls true _ _ rfl) ?_
    rintro e w1 ⟨rfl, rfl⟩
    go_wp2
    go_ret
    exact ⟨rfl, rfl⟩
  · obtain rfl : m = 0 := by rw [← hm, if_neg h]
    clear hm
    have f : (k == E) = false := beq_f h
    go_enter Try.func88, Try.ntmps88
    go_wp2_with fail
    refine use (only_calls false _ _ rfl) ?_
    rintro e w1 ⟨rfl, rfl⟩
    go_wp2
    go_ret
    exact ⟨rfl, rfl⟩
theorem due_calls (k W E : Int) (w : World) (m : Int) (hm : (if W ≤ k ∧ k < E then 1 else 0) = m) : Calls Try.prog 89 #[.int .i64 k, .int .i64 W, .int .i64 E] w (SameInt w m) := by
  have hm2 : m = if decide (W ≤ k) = true then (if decide (k < E) = true then 1 else 0) else 0 := by rw [← hm]; by_cases a : W ≤ k <;> by_cases b : k < E <;> simp [a, b]
  clear hm
  rcases Bool.eq_false_or_eq_true (decide (W ≤ k)) with f | f
  · rcases Bool.eq_false_or_eq_true (decide (k < E)) with g | g
    · obtain rfl : m = 1 := by rw [hm2, if_pos f, if_pos g]
      clear hm2
      go_enter Try.func89, Try.ntmps89
      go_wp2_with fail
      refine use (only_calls true _ _ rfl) ?_
      rintro e w1 ⟨rfl, rfl⟩
      go_wp2
      go_ret
      exact ⟨rfl, rfl⟩
    · obtain rfl : m = 0 := by rw [hm2, if_pos f, g]; rfl
      clear hm2
      go_enter Try.func89, Try.ntmps89
      go_wp2_with fail
      refine use (only_calls false _ _ rfl) ?_
      rintro e w1 ⟨rfl, rfl⟩
      go_wp2
      go_ret
      exact ⟨rfl, rfl⟩
  · obtain rfl : m = 0 := by rw [hm2, f]; rfl
    clear hm2
    go_enter Try.func89, Try.ntmps89
    go_wp2_with fail
    refine use (only_calls false _ _ rfl) ?_
    rintro e w1 ⟨rfl, rfl⟩
    go_wp2
    go_ret
    exact ⟨rfl, rfl⟩
theorem late_calls (k W E : Int) (w : World) (m : Int) (hm : (if W < k ∧ k ≤ E then 1 else 0) = m) : Calls Try.prog 90 #[.int .i64 k, .int .i64 W, .int .i64 E] w (SameInt w m) := by
  have hm2 : m = if decide (W < k) = true then (if decide (k ≤ E) = true then 1 else 0) else 0 := by rw [← hm]; by_cases a : W < k <;> by_cases b : k ≤ E <;> simp [a, b]
  clear hm
  rcases Bool.eq_false_or_eq_true (decide (W < k)) with f | f
  · rcases Bool.eq_false_or_eq_true (decide (k ≤ E)) with g | g
    · obtain rfl : m = 1 := by rw [hm2, if_pos f, if_pos g]
      clear hm2
      go_enter Try.func90, Try.ntmps90
      go_wp2_with fail
      refine use (only_calls true _ _ rfl) ?_
      rintro e w1 ⟨rfl, rfl⟩
      go_wp2
      go_ret
      exact ⟨rfl, rfl⟩
    · obtain rfl : m = 0 := by rw [hm2, if_pos f, g]; rfl
      clear hm2
      go_enter Try.func90, Try.ntmps90
      go_wp2_with fail
      refine use (only_calls false _ _ rfl) ?_
      rintro e w1 ⟨rfl, rfl⟩
      go_wp2
      go_ret
      exact ⟨rfl, rfl⟩
  · obtain rfl : m = 0 := by rw [hm2, f]; rfl
    clear hm2
    go_enter Try.func90, Try.ntmps90
    go_wp2_with fail
    refine use (only_calls false _ _ rfl) ?_
    rintro e w1 ⟨rfl, rfl⟩
    go_wp2
    go_ret
    exact ⟨rfl, rfl⟩
theorem rises_calls (k W E : Int) (w : World) (hk : 0 ≤ k ∧ k ≤ 130) (hw : 0 ≤ W ∧ W ≤ 130) (m : Int) (hm : (if W ≤ k ∧ k < E then k - W + 1 else 0) = m) : Calls Try.prog 91 #[.int .i64 k, .int .i64 W, .int .i64 E] w (SameInt w m) := by
  by_cases h : W ≤ k ∧ k < E
  · obtain rfl : m = k - W + 1 := by rw [← hm, if_pos h]
    clear hm
    have hd : (if W ≤ k ∧ k < E then 1 else 0) = (1 : Int) := if_pos h
    go_enter Try.func91, Try.ntmps91
    go_wp2_with fail
    refine use (death_calls _ _ _ _ _ hd) ?_
    rintro e w1 ⟨rfl, rfl⟩
    go_wp2
    go_ret
    exact ⟨by simp, rfl⟩
  · obtain rfl : m = 0 := by rw [← hm, if_neg h]
    clear hm
    have hd : (if W ≤ k ∧ k < E then 1 else 0) = (0 : Int) := if_neg h
    go_enter Try.func91, Try.ntmps91
    go_wp2_with fail
    refine use (death_calls _ _ _ _ _ hd) ?_
    rintro e w1 ⟨rfl, rfl⟩
    go_wp2
    go_ret
    exact ⟨by simp, rfl⟩
theorem falls_calls (k W E : Int) (w : World) (hk : 0 ≤ k ∧ k ≤ 130) (hw : 0 ≤ E ∧ E ≤ 260) (m : Int) (hm : (if W ≤ k ∧ k < E then E - k else 0) = m) : Calls Try.prog 92 #[.int .i64 k, .int .i64 W, .int .i64 E] w (SameInt w m) := by
  by_cases h : W ≤ k ∧ k < E
  · obtain rfl : m = E - k := by rw [← hm, if_pos h]
    clear hm
    have hd : (if W ≤ k ∧ k < E then 1 else 0) = (1 : Int) := if_pos h
    go_enter Try.func92, Try.ntmps92
    go_wp2_with fail
    refine use (death_calls _ _ _ _ _ hd) ?_
    rintro e w1 ⟨rfl, rfl⟩
    go_wp2
    go_ret
    exact ⟨by simp, rfl⟩
  · obtain rfl : m = 0 := by rw [← hm, if_neg h]
    clear hm
    have hd : (if W ≤ k ∧ k < E then 1 else 0) = (0 : Int) := if_neg h
    go_enter Try.func92, Try.ntmps92
    go_wp2_with fail
    refine use (death_calls _ _ _ _ _ hd) ?_
    rintro e w1 ⟨rfl, rfl⟩
    go_wp2
    go_ret
    exact ⟨by simp, rfl⟩
end Tt
