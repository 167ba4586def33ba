/- Floats by their bits: Up, Down, Steps of the program. -/
import Derived.Test.YtjjnhmcoodahgaaDoorFlS
namespace Tt
open Go Go.RowKit Go.Proofs
set_option linter.unusedSimpArgs false
set_option linter.unusedVariables false
set_option maxRecDepth 100000
attribute [local go_sem] unary_negf

/-- The next one. -/
def UpR (b r : Nat) : Prop :=
  (isNaN64 b ∧ r = b) ∨ (b = 9218868437227405312 ∧ r = b) ∨ (¬ isNaN64 b ∧ (b = 0 ∨ b = 9223372036854775808) ∧ r = 1) ∨ (¬ isNaN64 b ∧ 9223372036854775808 < b ∧ r + 1 = b) ∨ (¬ isNaN64 b ∧ 0 < b ∧ b < 9218868437227405312 ∧ r = b + 1)
theorem upR_some (b : Nat) (h : b < 18446744073709551616) : ∃ r, UpR b r := by
  unfold UpR
  by_cases n : isNaN64 b
  · exact ⟨b, .inl ⟨n, rfl⟩⟩
  · by_cases h1 : b = 9218868437227405312
    · exact ⟨b, .inr (.inl ⟨h1, rfl⟩)⟩
    · by_cases h2 : b = 0 ∨ b = 9223372036854775808
      · exact ⟨1, .inr (.inr (.inl ⟨n, h2, rfl⟩))⟩
      · by_cases h3 : 9223372036854775808 < b
        · exact ⟨b - 1, .inr (.inr (.inr (.inl ⟨n, h3, by omega⟩)))⟩
        · refine ⟨b + 1, .inr (.inr (.inr (.inr ⟨n, by omega, ?_, rfl⟩)))⟩
          unfold isNaN64 at n
          omega
theorem upR_lt {b r : Nat} (h : b < 18446744073709551616) (u : UpR b r) : r < 18446744073709551616 := by
  rcases u with ⟨_, u⟩ | ⟨_, u⟩ | ⟨_, _, u⟩ | ⟨_, _, u⟩ | ⟨_, _, _, u⟩ <;> omega
theorem not_nan_inf : ¬ isNaN64 9218868437227405312 := by unfold isNaN64; omega
theorem not_nan_0 : ¬ isNaN64 0 := by unfold isNaN64; omega
set_option maxHeartbeats 4000000 in
theorem fup_calls (b : Nat) (hb : b < 18446744073709551616) (w : World) (r : Nat) (hr : UpR b r) : Calls Tryd.prog 19 #[.float .f64 b] w (RetX w (.float .f64 r)) := by
  have hbits := f64bits b
  have hi := inf_calls
  have pi : plc 9218868437227405312 = 9218868437227405312 := by unfold plc; omega
  have p0 : plc 0 = 0 := by unfold plc; omega
  rcases hr with ⟨nx, rfl⟩ | ⟨rfl, rfl⟩ | ⟨nx, hz, rfl⟩ | ⟨nx, hp, hr⟩ | ⟨nx, hp, hq, hr⟩
  · have o1 := order64_nan_l r nx
    clear nx hb
    go_enter Tryd.func19, Tryd.ntmps19
    go_wp2
    go_ret
    exact ⟨rfl, rfl⟩
  · have o1 := order64_eq hb hb not_nan_inf not_nan_inf rfl
    clear hb
    go_enter Tryd.func19, Tryd.ntmps19
    go_wp2_with (first | (go_at_call 41; refine use (hi _) ?_; rintro e w1 ⟨rfl, rfl⟩))
    go_ret
    exact ⟨rfl, rfl⟩
  · have hp : plc b = 0 := by unfold plc; rcases hz with rfl | rfl <;> omega
    have o1 := order64_eq hb hb nx nx rfl
    have o2 := order64_lt hb (by omega) nx not_nan_inf (by rw [hp, pi]; omega)
    have o3 := order64_eq hb (by omega) nx not_nan_0 (by rw [hp, p0])
    clear nx hb hz hp
    go_enter Tryd.func19, Tryd.ntmps19
    go_wp2_with (first | (go_at_call 41; refine use (hi _) ?_; rintro e w1 ⟨rfl, rfl⟩))
    go_ret
    exact ⟨rfl, rfl⟩
  · have hp : plc b < 0 := by unfold plc; rw [if_pos (by omega)]; omega
    have o1 := order64_eq hb hb nx nx rfl
    have o2 := order64_lt hb (by omega) nx not_nan_inf (by rw [pi]; omega)
    have o3 := order64_lt hb (by omega) nx not_nan_0 (by rw [p0]; omega)
    have hfb : ∀ w, (callFunc 8 #[.int .u64 (r : Int)]).run Tryd.prog w = .ok (.value (.float .f64 r)) w := fun w => by simpa using f64frombits r w
    have hw : IntKind.u64.wrap ((b : Int) - 1) = r := by simp [IntKind.wrap, IntKind.bits, IntKind.signed]; omega
    clear nx hb hp hr
    go_enter Tryd.func19, Tryd.ntmps19
    go_wp2_with (first | (go_at_call 41; refine use (hi _) ?_; rintro e w1 ⟨rfl, rfl⟩))
    go_ret
    exact ⟨rfl, rfl⟩
  · have hp : 0 < plc b ∧ plc b < 9218868437227405312 := by unfold plc; rw [if_neg (by omega)]; omega
    have o1 := order64_eq hb hb nx nx rfl
    have o2 := order64_lt hb (by omega) nx not_nan_inf (by rw [pi]; omega)
    have o3 := order64_gt hb (by omega) nx not_nan_0 (by rw [p0]; omega)
    have hfb : ∀ w, (callFunc 8 #[.int .u64 (r : Int)]).run Tryd.prog w = .ok (.value (.float .f64 r)) w := fun w => by simpa using f64frombits r w
    have hw : IntKind.u64.wrap ((b : Int) + 1) = r := by simp [IntKind.wrap, IntKind.bits, IntKind.signed]; omega
    clear nx hb hp hr hq
    go_enter Tryd.func19, Tryd.ntmps19
    go_wp2_with (first | (go_at_call 41; refine use (hi _) ?_; rintro e w1 ⟨rfl, rfl⟩))
    go_ret
    exact ⟨rfl, rfl⟩
theorem fdown_calls (b : Nat) (hb : b < 18446744073709551616) (w : World) (r : Nat) (hr : UpR (flip b) r) : Calls Tryd.prog 21 #[.float .f64 b] w (RetX w (.float .f64 (flip r))) := by
  have hu := fun w => fup_calls (flip b) (flip_lt hb) w r hr
  have n1 := negF b hb
  have n2 := negF r (upR_lt (flip_lt hb) hr)
  go_enter Tryd.func21, Tryd.ntmps21
  go_wp2_with (first | (go_at_call 19; refine use (hu _) ?_; rintro e w1 ⟨rfl, rfl⟩))
  go_ret
  exact ⟨rfl, rfl⟩
theorem sub_wrap (p q : Int) (hp : -9223372036854775808 < p) (hp2 : p < 9223372036854775808) (hq : -9223372036854775808 < q) (hpq : q ≤ p) : IntKind.u64.wrap (IntKind.u64.wrap p - IntKind.u64.wrap q) = p - q := by
  simp [IntKind.wrap, IntKind.bits, IntKind.signed]; omega
theorem plc_rng {x : Nat} (h : x < 18446744073709551616) : -9223372036854775808 < plc x ∧ plc x < 9223372036854775808 := by unfold plc; split <;> omega
/-- How many there are between two. -/
def StepsR (x y : Nat) (n : Int) (ok : Bool) : Prop := ((isNaN64 x ∨ isNaN64 y) ∧ n = 0 ∧ ok = false) ∨ (¬ isNaN64 x ∧ ¬ isNaN64 y ∧ plc x ≤ plc y ∧ n = plc y - plc x ∧ ok = true) ∨ (¬ isNaN64 x ∧ ¬ isNaN64 y ∧ plc y < plc x ∧ n = plc x - plc y ∧ ok = true)
theorem stepsR_some (x y : Nat) : ∃ n ok, StepsR x y n ok := by
  unfold StepsR
  by_cases h : isNaN64 x ∨ isNaN64 y
  · exact ⟨0, false, .inl ⟨h, rfl, rfl⟩⟩
  · rw [not_or] at h
    rcases (by omega : plc x ≤ plc y ∨ plc y < plc x) with k | k
    · exact ⟨_, true, .inr (.inl ⟨h.1, h.2, k, rfl, rfl⟩)⟩
    · exact ⟨_, true, .inr (.inr ⟨h.1, h.2, k, rfl, rfl⟩)⟩
set_option maxHeartbeats 4000000 in
theorem fsteps_calls (x y : Nat) (hx : x < 18446744073709551616) (hy : y < 18446744073709551616) (w : World) (n : Int) (ok : Bool) (hr : StepsR x y n ok) : Calls Tryd.prog 27 #[.float .f64 x, .float .f64 y] w (RetV w (.tuple #[.int .u64 n, .bool ok])) := by
  have rx := plc_rng hx
  have ry := plc_rng hy
  rcases hr with ⟨h, rfl, rfl⟩ | ⟨nx, ny, hp, rfl, rfl⟩ | ⟨nx, ny, hp, rfl, rfl⟩
  · by_cases nx : isNaN64 x
    · have o1 := order64_nan_l x nx
      clear h nx hx hy rx ry
      go_enter Tryd.func27, Tryd.ntmps27
      go_wp2
      go_ret2
      exact ⟨rfl, Step.of⟩
    · have ny := h.resolve_left nx
      have o1 := order64_eq hx hx nx nx rfl
      have o2 := order64_nan_l y ny
      clear h nx ny hx hy rx ry
      go_enter Tryd.func27, Tryd.ntmps27
      go_wp2
      go_ret2
      exact ⟨rfl, Step.of⟩
  all_goals
    have o1 := order64_eq hx hx nx nx rfl
    have o2 := order64_eq hy hy ny ny rfl
    have hpl : ∀ w v, v = x ∨ v = y → Calls Tryd.prog 52 #[.float .f64 v] w (RetX w (.int .i64 (plc v))) := by
      rintro w v (rfl | rfl)
      · exact fplace_calls _ hx w _ rfl
      · exact fplace_calls _ hy w _ rfl
    have HP := Lib.hid hpl; clear hpl
    first
      | have hsw := sub_wrap (plc y) (plc x) (by omega) (by omega) (by omega) (by omega)
      | have hsw := sub_wrap (plc x) (plc y) (by omega) (by omega) (by omega) (by omega)
    clear nx ny hx hy
    generalize hpx : plc x = px at *
    generalize hpy : plc y = py at *
    go_enter Tryd.func27, Tryd.ntmps27
    go_wp2_with (first | (go_at_call 52; refine use (HP.out _ _ (by first | exact .inl rfl | exact .inr rfl)) ?_; rintro e w1 ⟨rfl, rfl⟩))
    all_goals
      go_ret2
      first
        | exact ⟨rfl, Step.of⟩
        | (refine ⟨congrArg (fun z => Ending.returned (Value.tuple #[Value.int .u64 z, Value.bool true])) ?_, Step.of⟩; rw [show IntKind.u64.wrap 0 = 0 from rfl]; omega)
end Tt
