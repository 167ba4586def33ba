/- Floats by their bits: order, sign, neighbours: laws of the model's floats. -/
import Derived.Test.YtjjnhmcoodahgaaDoorFlM
import Derived.Test.YtjjnhmcoodahgaaDoorFlQ
import Derived.Laws.BitsAllLaws
namespace Tt
open Go Go.RowKit Go.Proofs
set_option linter.unusedSimpArgs false
set_option linter.unusedVariables false
set_option maxRecDepth 100000

/-- Where a float stands among all. -/
def plc (b : Nat) : Int := if 9223372036854775808 ≤ b then -((b : Int) - 9223372036854775808) else b
theorem order64 {x y : Nat} (hx : x < 18446744073709551616) (hy : y < 18446744073709551616) (nx : ¬ isNaN64 x) (ny : ¬ isNaN64 y) : FloatKind.f64.format.order x y = some (compare (plc x) (plc y)) := by
  have a1 : Ieee.double.signWeight = 9223372036854775808 := by decide +kernel
  have a2 : Ieee.double.binade = 4503599627370496 := by decide +kernel
  have a3 : Ieee.double.infRung = 9218868437227405312 := by decide +kernel
  have key : ∀ z, z < 18446744073709551616 → ¬ isNaN64 z → z % 9223372036854775808 ≤ 9218868437227405312 ∧ plcR (z / 9223372036854775808 % 2 == 1) (z % 9223372036854775808) = plc z := by
    intro z hz nz
    constructor
    · unfold isNaN64 at nz
      omega
    · unfold plcR plc
      by_cases h : 9223372036854775808 ≤ z
      · have e : (z / 9223372036854775808 % 2 == 1) = true := beq_iff_eq.2 (by omega)
        rw [e, if_pos rfl, if_pos h]; omega
      · have e : (z / 9223372036854775808 % 2 == 1) = false := beq_eq_false_iff_ne.2 (by omega)
        rw [e, if_neg h]; simp only [Bool.false_eq_true, if_false]; omega
  have h := order_plc Ieee.double x y (by rw [a2, a3]; omega) (by rw [a1, a3]; exact (key x hx nx).1) (by rw [a1, a3]; exact (key y hy ny).1)
  rw [a1, (key x hx nx).2, (key y hy ny).2] at h
  exact h
theorem nan64_read {b : Nat} (h : isNaN64 b) : FloatKind.f64.format.read b = .nan (b / 9223372036854775808 % 2 == 1) (b % 9223372036854775808 - 9218868437227405312) := by
  obtain ⟨h1, h2, h3⟩ := h
  show Ieee.double.read b = _
  unfold Ieee.Format.read
  have a1 : Ieee.double.signWeight = 9223372036854775808 := by decide +kernel
  have a2 : Ieee.double.binade = 4503599627370496 := by decide +kernel
  have a3 : Ieee.double.infRung = 9218868437227405312 := by decide +kernel
  simp only [a1, a2, a3]
  rw [if_neg (by omega), if_neg (by omega), if_neg (by omega)]
theorem order64_nan_l {x : Nat} (y : Nat) (h : isNaN64 x) : FloatKind.f64.format.order x y = none := by
  unfold Ieee.Format.order
  rw [nan64_read h]
  rfl
theorem order64_nan_r {y : Nat} (x : Nat) (h : isNaN64 y) : FloatKind.f64.format.order x y = none := by
  unfold Ieee.Format.order
  rw [nan64_read h]
  cases FloatKind.f64.format.read x <;> rfl
theorem order64_eq {x y : Nat} (hx : x < 18446744073709551616) (hy : y < 18446744073709551616) (nx : ¬ isNaN64 x) (ny : ¬ isNaN64 y) (h : plc x = plc y) : FloatKind.f64.format.order x y = some .eq := by
  rw [order64 hx hy nx ny, Int.compare_eq_ite_lt, if_neg (by omega), if_neg (by omega)]
theorem order64_lt {x y : Nat} (hx : x < 18446744073709551616) (hy : y < 18446744073709551616) (nx : ¬ isNaN64 x) (ny : ¬ isNaN64 y) (h : plc x < plc y) : FloatKind.f64.format.order x y = some .lt := by
  rw [order64 hx hy nx ny, Int.compare_eq_ite_lt, if_pos h]
theorem order64_gt {x y : Nat} (hx : x < 18446744073709551616) (hy : y < 18446744073709551616) (nx : ¬ isNaN64 x) (ny : ¬ isNaN64 y) (h : plc y < plc x) : FloatKind.f64.format.order x y = some .gt := by
  rw [order64 hx hy nx ny, Int.compare_eq_ite_lt, if_neg (by omega), if_pos h]
theorem nan_bt {x : Nat} (h : isNaN64 x) : ((x : Int) / 4503599627370496 % 2048 == 2047 && (x : Int) % 4503599627370496 != 0) = true := by
  obtain ⟨h1, h2, h3⟩ := h
  rw [beq_t (by omega), bne_t (by omega)]; rfl
theorem nan_bf {x : Nat} (hx : x < 18446744073709551616) (h : ¬ isNaN64 x) : ((x : Int) / 4503599627370496 % 2048 == 2047 && (x : Int) % 4503599627370496 != 0) = false := by
  by_cases h2 : x / 4503599627370496 % 2048 = 2047
  · have : x % 4503599627370496 = 0 := by
      refine Classical.byContradiction fun h3 => h ⟨hx, h2, h3⟩
    rw [bne_f (by omega), Bool.and_false]
  · rw [beq_f (by omega), Bool.false_and]
/-- The other sign. -/
def flip (b : Nat) : Nat := if 9223372036854775808 ≤ b then b - 9223372036854775808 else b + 9223372036854775808
theorem xor_flip (b : Nat) (h : b < 18446744073709551616) : b ^^^ 9223372036854775808 = flip b := by
  unfold flip
  split
  · obtain ⟨c, rfl⟩ : ∃ c, b = c + 9223372036854775808 := ⟨b - 9223372036854775808, by omega⟩
    have := xor_top c 63 (by omega)
    have e : (2 : Nat) ^ 63 = 9223372036854775808 := by decide
    rw [e] at this
    rw [← this, Nat.xor_assoc, Nat.xor_self, Nat.xor_zero, this]
    omega
  · exact xor_top b 63 (by omega)
theorem negF (b : Nat) (h : b < 18446744073709551616) : Op.negFloat .f64 b = flip b := xor_flip b h
theorem u64_flip (b : Nat) (h : b < 18446744073709551616) : bits .xor .u64 (b : Int) 9223372036854775808 = (flip b : Nat) := by
  have := u64_xor_nat b 9223372036854775808 h (by omega)
  rw [xor_flip b h] at this
  exact this
theorem u64_low63 (b : Nat) (h : b < 18446744073709551616) : bits .andNot .u64 (b : Int) 9223372036854775808 = ((b % 9223372036854775808 : Nat) : Int) := by
  have := u64_andNot_nat b 9223372036854775808 h (by omega)
  rw [show (18446744073709551615 - 9223372036854775808 : Nat) = 2 ^ 63 - 1 by decide, Nat.and_two_pow_sub_one_eq_mod] at this
  exact this
theorem flip_lt {b : Nat} (h : b < 18446744073709551616) : flip b < 18446744073709551616 := by unfold flip; split <;> omega
theorem flip_nan {b : Nat} (h : b < 18446744073709551616) : isNaN64 (flip b) ↔ isNaN64 b := by unfold flip isNaN64; split <;> omega
theorem flip_flip {b : Nat} (h : b < 18446744073709551616) : flip (flip b) = b := by unfold flip; split <;> split <;> omega
theorem plc_flip {b : Nat} (h : b < 18446744073709551616) : plc (flip b) = - plc b := by unfold flip plc; split <;> split <;> omega
end Tt
