/- Floats by their bits: what is sound is what the document's Join gives back. -/
import Derived.Test.YtjjnhmcoodahgaaDoorFlM
namespace Tt
open Go Go.RowKit Go.Proofs
set_option linter.unusedSimpArgs false
set_option linter.unusedVariables false
set_option maxRecDepth 100000

theorem four_eq {a a' c c' d d' : Int} {b b' : Bool} : (#[Value.int .i64 a, .bool b, .int .u64 c, .int .i64 d] : Array Value) = #[.int .i64 a', .bool b', .int .u64 c', .int .i64 d'] ↔ a = a' ∧ b = b' ∧ c = c' ∧ d = d' := by
  simp
/-- The parts of bits that are put together of a sign, an exponent and a fraction. -/
theorem splitW_of (neg : Bool) (ex fr : Int) (he : 0 ≤ ex ∧ ex ≤ 2047) (hf : 0 ≤ fr ∧ fr < 4503599627370496) :
    splitW (if neg = true then ex * 4503599627370496 + fr + 9223372036854775808 else ex * 4503599627370496 + fr) = partsC 2047 4503599627370496 (-1074) ex fr neg := by
  unfold splitW
  cases neg
  · rw [if_neg (by simp)]
    have e1 : (ex * 4503599627370496 + fr) / 4503599627370496 % 2048 = ex := by omega
    have e2 : (ex * 4503599627370496 + fr) % 4503599627370496 = fr := by omega
    have e3 : decide (9223372036854775808 ≤ ex * 4503599627370496 + fr) = false := decide_eq_false (by omega)
    rw [e1, e2, e3]
  · rw [if_pos rfl]
    have e1 : (ex * 4503599627370496 + fr + 9223372036854775808) / 4503599627370496 % 2048 = ex := by omega
    have e2 : (ex * 4503599627370496 + fr + 9223372036854775808) % 4503599627370496 = fr := by omega
    have e3 : decide (9223372036854775808 ≤ ex * 4503599627370496 + fr + 9223372036854775808) = true := decide_eq_true (by omega)
    rw [e1, e2, e3]
theorem soundW_iff (k : Int) (neg : Bool) (m x : Int) (h0 : 0 ≤ m) (h1 : m < 18446744073709551616) :
    soundP 4503599627370496 (-1074) 971 k neg m x ↔ splitW (jbW k neg m x) = #[.int .i64 k, .bool neg, .int .u64 m, .int .i64 x] := by
  unfold soundP jbW
  rcases (by omega : k = 4 ∨ k = 3 ∨ k = 0 ∨ k = 1 ∨ k = 2 ∨ (k ≠ 0 ∧ k ≠ 1 ∧ k ≠ 2 ∧ k ≠ 3 ∧ k ≠ 4)) with rfl | rfl | rfl | rfl | rfl | ⟨hk0, hk1, hk2, hk3, hk4⟩
  · rw [if_pos rfl]
    have h := splitW_of false 2047 2251799813685248 (by omega) (by omega)
    simp only [Bool.false_eq_true, if_false] at h
    rw [show (2047 : Int) * 4503599627370496 + 2251799813685248 = 9221120237041090560 by rfl] at h
    rw [h]
    unfold partsC
    rw [if_pos (by omega), four_eq]
    cases neg <;> simp <;> omega
  · rw [if_neg (by omega), if_pos rfl]
    have h := splitW_of neg 2047 0 (by omega) (by omega)
    rw [show (2047 : Int) * 4503599627370496 + 0 = 9218868437227405312 by rfl, show (9218868437227405312 : Int) + 9223372036854775808 = 18442240474082181120 by rfl] at h
    rw [h]
    unfold partsC
    rw [if_neg (by omega), if_pos (by omega), four_eq]
    simp <;> omega
  · rw [if_neg (by omega), if_neg (by omega), if_pos rfl]
    have h := splitW_of neg 0 0 (by omega) (by omega)
    rw [show (0 : Int) * 4503599627370496 + 0 = 0 by rfl, show (0 : Int) + 9223372036854775808 = 9223372036854775808 by rfl] at h
    rw [h]
    unfold partsC
    rw [if_neg (by omega), if_neg (by omega), if_pos (by omega), four_eq]
    simp <;> omega
  · rw [if_neg (by omega), if_neg (by omega), if_neg (by omega), if_pos rfl]
    have h := splitW_of neg 0 (m % 4503599627370496) (by omega) (by omega)
    rw [show (0 : Int) * 4503599627370496 + m % 4503599627370496 = m % 4503599627370496 by omega] at h
    rw [h]
    unfold partsC
    rw [if_neg (by omega), if_neg (by omega)]
    by_cases hz : m % 4503599627370496 = 0
    · rw [if_pos ⟨rfl, hz⟩, four_eq]
      simp <;> omega
    · rw [if_neg (by omega), if_pos rfl, four_eq]
      simp <;> omega
  · rw [if_neg (by omega), if_neg (by omega), if_neg (by omega), if_neg (by omega)]
    by_cases hx : -1074 ≤ x ∧ x ≤ 971
    · rw [if_pos ⟨rfl, hx⟩]
      have h := splitW_of neg (x + 1075) (m % 4503599627370496) (by omega) (by omega)
      rw [h]
      unfold partsC
      rw [if_neg (by omega), if_neg (by omega), if_neg (by omega), if_neg (by omega), four_eq]
      simp <;> omega
    · rw [if_neg (by omega)]
      have h := splitW_of false 0 0 (by omega) (by omega)
      simp only [Bool.false_eq_true, if_false] at h
      rw [show (0 : Int) * 4503599627370496 + 0 = 0 by rfl] at h
      rw [h]
      unfold partsC
      rw [if_neg (by omega), if_neg (by omega), if_pos (by omega), four_eq]
      simp <;> omega
  · rw [if_neg hk4, if_neg hk3, if_neg hk0, if_neg hk1, if_neg (by omega)]
    have h := splitW_of false 0 0 (by omega) (by omega)
    simp only [Bool.false_eq_true, if_false] at h
    rw [show (0 : Int) * 4503599627370496 + 0 = 0 by rfl] at h
    rw [h]
    unfold partsC
    rw [if_neg (by omega), if_neg (by omega), if_pos (by omega), four_eq]
    constructor
    · rintro (h | h | h | h) <;> omega
    · intro h; omega
/-- The parts of bits that are put together of a sign, an exponent and a fraction. -/
theorem splitS_of (neg : Bool) (ex fr : Int) (he : 0 ≤ ex ∧ ex ≤ 255) (hf : 0 ≤ fr ∧ fr < 8388608) :
    splitS (if neg = true then ex * 8388608 + fr + 2147483648 else ex * 8388608 + fr) = partsC 255 8388608 (-149) ex fr neg := by
  unfold splitS
  cases neg
  · rw [if_neg (by simp)]
    have e1 : (ex * 8388608 + fr) / 8388608 % 256 = ex := by omega
    have e2 : (ex * 8388608 + fr) % 8388608 = fr := by omega
    have e3 : decide (2147483648 ≤ ex * 8388608 + fr) = false := decide_eq_false (by omega)
    rw [e1, e2, e3]
  · rw [if_pos rfl]
    have e1 : (ex * 8388608 + fr + 2147483648) / 8388608 % 256 = ex := by omega
    have e2 : (ex * 8388608 + fr + 2147483648) % 8388608 = fr := by omega
    have e3 : decide (2147483648 ≤ ex * 8388608 + fr + 2147483648) = true := decide_eq_true (by omega)
    rw [e1, e2, e3]
theorem soundS_iff (k : Int) (neg : Bool) (m x : Int) (h0 : 0 ≤ m) (h1 : m < 18446744073709551616) :
    soundP 8388608 (-149) 104 k neg m x ↔ splitS (jbS k neg m x) = #[.int .i64 k, .bool neg, .int .u64 m, .int .i64 x] := by
  unfold soundP jbS
  rcases (by omega : k = 4 ∨ k = 3 ∨ k = 0 ∨ k = 1 ∨ k = 2 ∨ (k ≠ 0 ∧ k ≠ 1 ∧ k ≠ 2 ∧ k ≠ 3 ∧ k ≠ 4)) with rfl | rfl | rfl | rfl | rfl | ⟨hk0, hk1, hk2, hk3, hk4⟩
  · rw [if_pos rfl]
    have h := splitS_of false 255 4194304 (by omega) (by omega)
    simp only [Bool.false_eq_true, if_false] at h
    rw [show (255 : Int) * 8388608 + 4194304 = 2143289344 by rfl] at h
    rw [h]
    unfold partsC
    rw [if_pos (by omega), four_eq]
    cases neg <;> simp <;> omega
  · rw [if_neg (by omega), if_pos rfl]
    have h := splitS_of neg 255 0 (by omega) (by omega)
    rw [show (255 : Int) * 8388608 + 0 = 2139095040 by rfl, show (2139095040 : Int) + 2147483648 = 4286578688 by rfl] at h
    rw [h]
    unfold partsC
    rw [if_neg (by omega), if_pos (by omega), four_eq]
    simp <;> omega
  · rw [if_neg (by omega), if_neg (by omega), if_pos rfl]
    have h := splitS_of neg 0 0 (by omega) (by omega)
    rw [show (0 : Int) * 8388608 + 0 = 0 by rfl, show (0 : Int) + 2147483648 = 2147483648 by rfl] at h
    rw [h]
    unfold partsC
    rw [if_neg (by omega), if_neg (by omega), if_pos (by omega), four_eq]
    simp <;> omega
  · rw [if_neg (by omega), if_neg (by omega), if_neg (by omega), if_pos rfl]
    have h := splitS_of neg 0 (m % 8388608) (by omega) (by omega)
    rw [show (0 : Int) * 8388608 + m % 8388608 = m % 8388608 by omega] at h
    rw [h]
    unfold partsC
    rw [if_neg (by omega), if_neg (by omega)]
    by_cases hz : m % 8388608 = 0
    · rw [if_pos ⟨rfl, hz⟩, four_eq]
      simp <;> omega
    · rw [if_neg (by omega), if_pos rfl, four_eq]
      simp <;> omega
  · rw [if_neg (by omega), if_neg (by omega), if_neg (by omega), if_neg (by omega)]
    by_cases hx : -149 ≤ x ∧ x ≤ 104
    · rw [if_pos ⟨rfl, hx⟩]
      have h := splitS_of neg (x + 150) (m % 8388608) (by omega) (by omega)
      rw [h]
      unfold partsC
      rw [if_neg (by omega), if_neg (by omega), if_neg (by omega), if_neg (by omega), four_eq]
      simp <;> omega
    · rw [if_neg (by omega)]
      have h := splitS_of false 0 0 (by omega) (by omega)
      simp only [Bool.false_eq_true, if_false] at h
      rw [show (0 : Int) * 8388608 + 0 = 0 by rfl] at h
      rw [h]
      unfold partsC
      rw [if_neg (by omega), if_neg (by omega), if_pos (by omega), four_eq]
      simp <;> omega
  · rw [if_neg hk4, if_neg hk3, if_neg hk0, if_neg hk1, if_neg (by omega)]
    have h := splitS_of false 0 0 (by omega) (by omega)
    simp only [Bool.false_eq_true, if_false] at h
    rw [show (0 : Int) * 8388608 + 0 = 0 by rfl] at h
    rw [h]
    unfold partsC
    rw [if_neg (by omega), if_neg (by omega), if_pos (by omega), four_eq]
    constructor
    · rintro (h | h | h | h) <;> omega
    · intro h; omega
end Tt
