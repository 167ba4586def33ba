/- Floats by their bits: the last place's worth, as the program reckons it. -/
import Derived.Test.YtjjnhmcoodahgaaDoorFlV
import Derived.Laws.FloatArith
namespace Tt
open Go Go.RowKit Go.Proofs
set_option linter.unusedSimpArgs false
set_option linter.unusedVariables false
set_option maxRecDepth 100000
attribute [local go_sem] unary_negf

/-- 2 to the j less 1074. -/
def gapB (j : Nat) : Nat := if j < 52 then 2 ^ j else (j - 51) * 4503599627370496
theorem gap_low {j : Nat} (h : j < 52) : floatBits .mul .f64 4368491638549381120 ((j + 2) * 4503599627370496) = some (gapB j) := by
  have t : ((List.range 52).all fun j => decide (floatBits .mul .f64 4368491638549381120 ((j + 2) * 4503599627370496) = some (gapB j))) = true := by decide +kernel
  exact of_decide_eq_true (List.all_eq_true.1 t j (List.mem_range.2 h))
theorem gap_high {j : Nat} (h : 52 ≤ j) (h2 : j < 2046) : floatBits .mul .f64 4607182418800017408 ((j - 51) * 4503599627370496) = some (gapB j) := by
  have t : ((List.range 2046).all fun j => decide (j < 52) || decide (floatBits .mul .f64 4607182418800017408 ((j - 51) * 4503599627370496) = some (gapB j))) = true := by decide +kernel
  have := List.all_eq_true.1 t j (List.mem_range.2 h2)
  rw [decide_eq_false (by omega), Bool.false_or] at this
  exact of_decide_eq_true this
theorem isnan_one (w : World) : Calls Tryd.prog 86 #[.float .f64 4607182418800017408] w (RetX w (.bool false)) := by
  have o1 : FloatKind.f64.format.order 4607182418800017408 4607182418800017408 = some .eq := by decide +kernel
  go_enter Tryd.func86, Tryd.ntmps86
  go_wp2
  go_ret
  exact ⟨rfl, rfl⟩
theorem abs_one (w : World) : Calls Tryd.prog 108 #[.float .f64 4607182418800017408] w (RetX w (.float .f64 4607182418800017408)) := by
  have hb := f64bits 4607182418800017408
  have hf := f64frombits 4607182418800017408
  have e1 : bits .andNot .u64 4607182418800017408 9223372036854775808 = 4607182418800017408 := by decide +kernel
  go_enter Tryd.func108, Tryd.ntmps108
  go_wp2
  go_ret
  exact ⟨rfl, rfl⟩
theorem isinf_one (w : World) : Calls Tryd.prog 85 #[.float .f64 4607182418800017408, .int .i64 0] w (RetX w (.bool false)) := by
  have ha := abs_one
  have o1 : FloatKind.f64.format.order 4607182418800017408 9218868437227405311 = some .lt := by decide +kernel
  go_enter Tryd.func85, Tryd.ntmps85
  go_wp2_with (first | (go_at_call 108; refine use (ha _) ?_; rintro e w1 ⟨rfl, rfl⟩))
  go_ret
  exact ⟨rfl, rfl⟩
theorem normalize_one (w : World) : Calls Tryd.prog 87 #[.float .f64 4607182418800017408] w (RetX w (.tuple #[.float .f64 4607182418800017408, .int .i64 0])) := by
  have ha := abs_one
  have o1 : FloatKind.f64.format.order 4607182418800017408 4503599627370496 = some .gt := by decide +kernel
  go_enter Tryd.func87, Tryd.ntmps87
  go_wp2_with (first | (go_at_call 108; refine use (ha _) ?_; rintro e w1 ⟨rfl, rfl⟩))
  go_ret2
  exact ⟨rfl, rfl⟩
theorem or_zero (y : Int) (h0 : 0 ≤ y) (h1 : y < 18446744073709551616) : bits .or .u64 0 y = y := by
  obtain ⟨n, rfl⟩ := Int.eq_ofNat_of_zero_le h0
  have := u64_or_nat 0 n (by omega) (by omega)
  rw [Nat.zero_or] at this
  exact this
set_option maxHeartbeats 8000000 in
theorem ldexp_calls (j : Nat) (hj : j < 2046) (w : World) : Calls Tryd.prog 66 #[.float .f64 4607182418800017408, .int .i64 (j - 1074)] w (RetX w (.float .f64 (gapB j))) := by
  have h1 := isinf_one
  have h2 := isnan_one
  have h3 := normalize_one
  have hb := f64bits 4607182418800017408
  have o1 : FloatKind.f64.format.order 4607182418800017408 0 = some .gt := by decide +kernel
  have e1 : bits .and .i64 1023 2047 = 1023 := by decide +kernel
  have e2 : bits .andNot .u64 4607182418800017408 9218868437227405312 = 0 := by decide +kernel
  by_cases hl : j < 52
  · have hm := fun w => run_float_arith (P := Tryd.prog) w .mul 28 .f64 _ _ _ (gap_low hl)
    have hf : ∀ w, (callFunc 8 #[.int .u64 (((j : Int) + 2) * 4503599627370496)]).run Tryd.prog w = .ok (.value (.float .f64 ((j + 2) * 4503599627370496))) w := fun w => by
      have := f64frombits (((j : Int) + 2) * 4503599627370496) w
      rw [show ((((j : Int) + 2) * 4503599627370496)).toNat = (j + 2) * 4503599627370496 by omega] at this
      exact this
    have e3 : bits .or .u64 0 (((j : Int) - 1074 + 53 + 1023) * 4503599627370496) = ((j : Int) + 2) * 4503599627370496 := by
      rw [or_zero _ (by omega) (by omega)]; omega
    generalize gapB j = g at *
    obtain ⟨J, hJ⟩ : ∃ J : Int, (j : Int) = J := ⟨_, rfl⟩
    rw [hJ] at hf e3 ⊢
    have hJ1 : 0 ≤ J := by omega
    have hJ2 : J < 52 := by omega
    clear hJ hj hl
    generalize (j + 2) * 4503599627370496 = y at *
    go_enter Tryd.func66, Tryd.ntmps66
    go_wp2_with (first | (go_at_call 85; refine use (h1 _) ?_; rintro e w1 ⟨rfl, rfl⟩) | (go_at_call 86; refine use (h2 _) ?_; rintro e w1 ⟨rfl, rfl⟩) | (go_at_call 87; refine use (h3 _) ?_; rintro e w1 ⟨rfl, rfl⟩))
    go_ret
    exact ⟨rfl, rfl⟩
  · have hm := fun w => run_float_arith (P := Tryd.prog) w .mul 28 .f64 _ _ _ (gap_high (by omega) hj)
    have hf : ∀ w, (callFunc 8 #[.int .u64 (((j : Int) - 51) * 4503599627370496)]).run Tryd.prog w = .ok (.value (.float .f64 ((j - 51) * 4503599627370496))) w := fun w => by
      have := f64frombits (((j : Int) - 51) * 4503599627370496) w
      rw [show ((((j : Int) - 51) * 4503599627370496)).toNat = (j - 51) * 4503599627370496 by omega] at this
      exact this
    have e3 : bits .or .u64 0 (((j : Int) - 1074 + 1023) * 4503599627370496) = ((j : Int) - 51) * 4503599627370496 := by
      rw [or_zero _ (by omega) (by omega)]; omega
    generalize gapB j = g at *
    obtain ⟨J, hJ⟩ : ∃ J : Int, (j : Int) = J := ⟨_, rfl⟩
    rw [hJ] at hf e3 ⊢
    have hJ1 : 52 ≤ J := by omega
    have hJ2 : J < 2046 := by omega
    clear hJ hj hl
    generalize (j - 51) * 4503599627370496 = y at *
    go_enter Tryd.func66, Tryd.ntmps66
    go_wp2_with (first | (go_at_call 85; refine use (h1 _) ?_; rintro e w1 ⟨rfl, rfl⟩) | (go_at_call 86; refine use (h2 _) ?_; rintro e w1 ⟨rfl, rfl⟩) | (go_at_call 87; refine use (h3 _) ?_; rintro e w1 ⟨rfl, rfl⟩))
    go_ret
    exact ⟨rfl, rfl⟩
theorem fldexp_calls (j : Nat) (hj : j < 2046) (w : World) : Calls Tryd.prog 54 #[.float .f64 4607182418800017408, .int .i64 (j - 1074)] w (RetX w (.float .f64 (gapB j))) := by
  have h := ldexp_calls j hj
  generalize gapB j = g at *
  generalize (j : Int) - 1074 = e at *
  go_enter Tryd.func54, Tryd.ntmps54
  go_wp2_with (first | (go_at_call 66; refine use (h _) ?_; rintro e w1 ⟨rfl, rfl⟩))
  go_ret
  exact ⟨rfl, rfl⟩
end Tt
