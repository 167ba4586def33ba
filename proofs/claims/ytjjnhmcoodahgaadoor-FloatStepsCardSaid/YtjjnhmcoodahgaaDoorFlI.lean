/- Floats by their bits: the program's makers of floats. -/
import Derived.Test.YtjjnhmcoodahgaaDoorFlH
namespace Tt
open Go Go.RowKit Go.Proofs
set_option linter.unusedSimpArgs false
set_option linter.unusedVariables false
set_option maxRecDepth 100000

theorem unary_negf (k : FloatKind) (b : Nat) : Op.unary .neg (.float k b) = pure (.float k (Op.negFloat k b)) := rfl
attribute [local go_sem] unary_negf
theorem xor_top (b i : Nat) (h : b < 2 ^ i) : b ^^^ 2 ^ i = b + 2 ^ i := by
  have h1 := Nat.two_pow_add_eq_or_of_lt (i := i) (b := b) h 1
  rw [Nat.mul_one] at h1
  rw [Nat.add_comm, h1]
  apply Nat.eq_of_testBit_eq
  intro j
  rw [Nat.testBit_xor, Nat.testBit_or, Nat.testBit_two_pow]
  by_cases hj : i = j
  · subst hj
    simp [Nat.testBit_lt_two_pow h]
  · simp [hj]
theorem negf64 (b : Nat) (h : b < 9223372036854775808) : Op.negFloat .f64 b = b + 9223372036854775808 := xor_top b 63 h
theorem negf32 (b : Nat) (h : b < 2147483648) : Op.negFloat .f32 b = b + 2147483648 := xor_top b 31 h
theorem inf_calls (w : World) : Calls Tryd.prog 41 #[.int .i64 1] w (RetX w (.float .f64 9218868437227405312)) := by
  have hf := f64frombits 9218868437227405312
  go_enter Tryd.func41, Tryd.ntmps41
  go_wp2
  go_ret
  exact ⟨rfl, rfl⟩
theorem fsigned_calls (b : Nat) (neg : Bool) (w : World) : Calls Tryd.prog 44 #[.float .f64 b, .bool neg] w (RetX w (.float .f64 (if neg = true then Op.negFloat .f64 b else b))) := by
  cases neg
  · go_enter Tryd.func44, Tryd.ntmps44
    go_wp2
    go_ret
    exact ⟨rfl, rfl⟩
  · go_enter Tryd.func44, Tryd.ntmps44
    go_wp2
    go_ret
    exact ⟨rfl, rfl⟩
set_option maxHeartbeats 4000000 in
theorem ffloat_small (m : Nat) (x : Int) (hm : m < 4503599627370496) (w : World) : Calls Tryd.prog 43 #[.agg #[.int .u64 m, .int .i64 x, .bool false, .bool false]] w (RetV w (.float .f64 m)) := by
  have hu := Tryd.underlying76
  have hf := f64frombits m
  have f1 : ((m : Int) / 4503599627370496 == 0) = true := beq_t (by omega)
  go_enter Tryd.func43, Tryd.ntmps43
  go_wp2
  go_ret
  exact ⟨rfl, Step.of⟩
set_option maxHeartbeats 4000000 in
theorem ffloat_normal (m : Nat) (x : Int) (hm : 4503599627370496 ≤ m) (hm2 : m < 9007199254740992) (hx : -1074 ≤ x ∧ x ≤ 971) (w : World) (r : Nat) (hr : (x + 1075) * 4503599627370496 + m % 4503599627370496 = r) :
    Calls Tryd.prog 43 #[.agg #[.int .u64 m, .int .i64 x, .bool false, .bool false]] w (RetV w (.float .f64 r)) := by
  have hu := Tryd.underlying76
  have hf := f64frombits r
  have f1 : ((m : Int) / 4503599627370496 == 0) = false := beq_f (by omega)
  have e1 : bits .and .u64 (m : Int) 4503599627370495 = (m : Int) % 2 ^ 52 := u64_mask 52 (by omega) _ _ (by omega) (by omega) rfl
  have e2 : bits .or .u64 ((x + 1075) * 4503599627370496) ((m : Int) % 4503599627370496) = r := by
    rw [← hr]; exact u64_join 52 _ _ (by omega) (by omega) (by omega) (by omega) (by omega) (by omega)
  have HR := Lib.hid hr; clear hr
  go_enter Tryd.func43, Tryd.ntmps43
  go_wp2
  go_ret
  exact ⟨rfl, Step.of⟩
theorem u32_in (n : Int) (h₀ : 0 ≤ n) (h₁ : n < 2 ^ 32) : IntKind.u32.wrap n = n := by
  simp [IntKind.wrap, IntKind.bits, IntKind.signed]; omega
theorem u32_mask (i : Nat) (hi : i ≤ 32) (x m : Int) (h₀ : 0 ≤ x) (h₁ : x < 2 ^ 32) (hm : m = 2 ^ i - 1) : bits .and .u32 x m = x % 2 ^ i := by
  subst hm
  exact bits_mask .u32 32 (by decide) u32_in i hi x h₀ h₁
theorem u32_join (i : Nat) (x y : Int) (hx₀ : 0 ≤ x) (hx : x % 2 ^ i = 0) (hx₁ : x < 2 ^ 32) (hy₀ : 0 ≤ y) (hy : y < 2 ^ i) (hy₁ : y < 2 ^ 32) : bits .or .u32 x y = x + y :=
  bits_join .u32 32 (by decide) u32_in i x y hx₀ hx hx₁ hy₀ hy hy₁
set_option maxHeartbeats 4000000 in
theorem ffloat32_small (m : Nat) (x : Int) (hm : m < 8388608) (w : World) : Calls Tryd.prog 45 #[.agg #[.int .u64 m, .int .i64 x, .bool false, .bool false]] w (RetV w (.float .f32 m)) := by
  have hu := Tryd.underlying76
  have hf := f32frombits m
  have f1 : ((m : Int) / 8388608 == 0) = true := beq_t (by omega)
  go_enter Tryd.func45, Tryd.ntmps45
  go_wp2
  go_ret
  exact ⟨rfl, Step.of⟩
set_option maxHeartbeats 4000000 in
theorem ffloat32_normal (m : Nat) (x : Int) (hm : 8388608 ≤ m) (hm2 : m < 16777216) (hx : -149 ≤ x ∧ x ≤ 104) (w : World) (r : Nat) (hr : (x + 150) * 8388608 + m % 8388608 = r) :
    Calls Tryd.prog 45 #[.agg #[.int .u64 m, .int .i64 x, .bool false, .bool false]] w (RetV w (.float .f32 r)) := by
  have hu := Tryd.underlying76
  have hf := f32frombits r
  have f1 : ((m : Int) / 8388608 == 0) = false := beq_f (by omega)
  have e1 : bits .and .u32 (m : Int) 8388607 = (m : Int) % 2 ^ 23 := u32_mask 23 (by omega) _ _ (by omega) (by omega) rfl
  have e2 : bits .or .u32 ((x + 150) * 8388608) ((m : Int) % 8388608) = r := by
    rw [← hr]; exact u32_join 23 _ _ (by omega) (by omega) (by omega) (by omega) (by omega) (by omega)
  have HR := Lib.hid hr; clear hr
  go_enter Tryd.func45, Tryd.ntmps45
  go_wp2
  go_ret
  exact ⟨rfl, Step.of⟩
end Tt
