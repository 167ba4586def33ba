/- Floats by their bits: the law's is, is32. -/
import Derived.Test.YtjjnhmcoodahgaaDoorFlL
namespace Tt
open Go Go.RowKit Go.Proofs
set_option linter.unusedSimpArgs false
set_option linter.unusedVariables false
set_option maxRecDepth 100000

def isNaN64 (b : Nat) : Prop := b < 18446744073709551616 ∧ b / 4503599627370496 % 2048 = 2047 ∧ b % 4503599627370496 ≠ 0
theorem nan64_order {b : Nat} (h : isNaN64 b) : FloatKind.f64.format.order b b = none := by
  obtain ⟨h1, h2, h3⟩ := h
  have hr : FloatKind.f64.format.read b = .nan (b / 9223372036854775808 % 2 == 1) (b % 9223372036854775808 - 9218868437227405312) := by
    show Ieee.double.read b = _
    unfold Ieee.Format.read
    have a1 : Ieee.double.signWeight = 9223372036854775808 := by decide +kernel
    have a2 : Ieee.double.binade = 4503599627370496 := by decide +kernel
    have a3 : Ieee.double.infRung = 9218868437227405312 := by decide +kernel
    simp only [a1, a2, a3]
    rw [if_neg (by omega), if_neg (by omega), if_neg (by omega)]
  unfold Ieee.Format.order
  rw [hr]
  rfl
theorem nan32_order {b : Nat} (h : isNaN32 b) : FloatKind.f32.format.order b b = none := by
  obtain ⟨h1, h2, h3⟩ := h
  have hr : FloatKind.f32.format.read b = .nan (b / 2147483648 % 2 == 1) (b % 2147483648 - 2139095040) := by
    show Ieee.single.read b = _
    unfold Ieee.Format.read
    have a1 : Ieee.single.signWeight = 2147483648 := by decide +kernel
    have a2 : Ieee.single.binade = 8388608 := by decide +kernel
    have a3 : Ieee.single.infRung = 2139095040 := by decide +kernel
    simp only [a1, a2, a3]
    rw [if_neg (by omega), if_neg (by omega), if_neg (by omega)]
  unfold Ieee.Format.order
  rw [hr]
  rfl
theorem is_same (b : Nat) (w : World) : Calls Tryd.prog 17 #[.float .f64 b, .int .u64 b] w (RetV w (.bool true)) := by
  have hb := f64bits b
  go_enter Tryd.func17, Tryd.ntmps17
  go_wp2
  go_ret
  exact ⟨rfl, Step.of⟩
theorem is_none (b : Nat) (c : Int) (h : isNaN64 b) (h0 : 0 ≤ c) (h1 : c < 18446744073709551616) (hc : (c / 4503599627370496 % 2048 == 2047 && c % 4503599627370496 != 0) = true) (w : World) : Calls Tryd.prog 17 #[.float .f64 b, .int .u64 c] w (RetV w (.bool true)) := by
  have hb := f64bits b
  have ho := nan64_order h
  have hw := wide_calls
  have hn := fun w => wisnone_calls c h0 h1 w true hc
  by_cases e : (b : Int) = c
  · subst e
    exact is_same b w
  have f : ((b : Int) == c) = false := beq_f e
  clear hc h
  go_enter Tryd.func17, Tryd.ntmps17
  go_wp2_with (first | (go_at_call 9; refine use (hw _) ?_; rintro e w1 ⟨rfl, hs1⟩) | (go_at_call 49; refine use (hn _) ?_; rintro e w2 ⟨rfl, hs2⟩))
  go_ret
  exact ⟨rfl, Step.of⟩
theorem is32_same (b : Nat) (hlt : b < 4294967296) (w : World) : Calls Tryd.prog 18 #[.float .f32 b, .int .u64 b] w (RetV w (.bool true)) := by
  have hb := f32bits b
  go_enter Tryd.func18, Tryd.ntmps18
  go_wp2
  go_ret
  exact ⟨rfl, Step.of⟩
theorem is32_none (b : Nat) (c : Int) (h : isNaN32 b) (h0 : 0 ≤ c) (h1 : c < 4294967296) (hc : (c / 8388608 % 256 == 255 && c % 8388608 != 0) = true) (w : World) : Calls Tryd.prog 18 #[.float .f32 b, .int .u64 c] w (RetV w (.bool true)) := by
  have hb := f32bits b
  have ho := nan32_order h
  have hw := small_calls
  have hn := fun w => sisnone_calls c h0 h1 w true hc
  by_cases e : (b : Int) = c
  · subst e
    exact is32_same b h.1 w
  have f : ((b : Int) == c) = false := beq_f e
  have hlt := h.1
  clear hc h
  go_enter Tryd.func18, Tryd.ntmps18
  go_wp2_with (first | (go_at_call 13; refine use (hw _) ?_; rintro e w1 ⟨rfl, hs1⟩) | (go_at_call 49; refine use (hn _) ?_; rintro e w2 ⟨rfl, hs2⟩))
  go_ret
  exact ⟨rfl, Step.of⟩
end Tt
