/- Floats by their bits: Up, Down, Order, Same, Steps, as the program and as the document reckon them. -/
import Derived.Test.YtjjnhmcoodahgaaDoorFlR
namespace Tt
open Go Go.RowKit Go.Proofs
set_option linter.unusedSimpArgs false
set_option linter.unusedVariables false
set_option maxRecDepth 100000
attribute [local go_sem] unary_negf

/-- How two stand to each other. -/
def OrdR (x y : Nat) (r : Int) : Prop :=
  (isNaN64 x ∧ isNaN64 y ∧ r = 0) ∨ (isNaN64 x ∧ ¬ isNaN64 y ∧ r = 1) ∨ (¬ isNaN64 x ∧ isNaN64 y ∧ r = -1) ∨ (¬ isNaN64 x ∧ ¬ isNaN64 y ∧ plc x < plc y ∧ r = -1) ∨ (¬ isNaN64 x ∧ ¬ isNaN64 y ∧ plc y < plc x ∧ r = 1) ∨
  (¬ isNaN64 x ∧ ¬ isNaN64 y ∧ x = y ∧ r = 0) ∨ (¬ isNaN64 x ∧ ¬ isNaN64 y ∧ x = 9223372036854775808 ∧ y = 0 ∧ r = -1) ∨ (¬ isNaN64 x ∧ ¬ isNaN64 y ∧ x = 0 ∧ y = 9223372036854775808 ∧ r = 1)
theorem ordR_some (x y : Nat) (hx : x < 18446744073709551616) (hy : y < 18446744073709551616) : ∃ r, OrdR x y r := by
  unfold OrdR
  by_cases nx : isNaN64 x <;> by_cases ny : isNaN64 y
  · exact ⟨0, .inl ⟨nx, ny, rfl⟩⟩
  · exact ⟨1, .inr (.inl ⟨nx, ny, rfl⟩)⟩
  · exact ⟨-1, .inr (.inr (.inl ⟨nx, ny, rfl⟩))⟩
  · rcases (by omega : plc x < plc y ∨ plc y < plc x ∨ plc x = plc y) with h | h | h
    · exact ⟨-1, .inr (.inr (.inr (.inl ⟨nx, ny, h, rfl⟩)))⟩
    · exact ⟨1, .inr (.inr (.inr (.inr (.inl ⟨nx, ny, h, rfl⟩))))⟩
    · have : x = y ∨ (x = 9223372036854775808 ∧ y = 0) ∨ (x = 0 ∧ y = 9223372036854775808) := by
        unfold plc at h
        split at h <;> split at h <;> omega
      rcases this with e | e | e
      · exact ⟨0, .inr (.inr (.inr (.inr (.inr (.inl ⟨nx, ny, e, rfl⟩)))))⟩
      · exact ⟨-1, .inr (.inr (.inr (.inr (.inr (.inr (.inl ⟨nx, ny, e.1, e.2, rfl⟩))))))⟩
      · exact ⟨1, .inr (.inr (.inr (.inr (.inr (.inr (.inr ⟨nx, ny, e.1, e.2, rfl⟩))))))⟩
theorem fsignbit_calls (x : Nat) (hx : x < 18446744073709551616) (w : World) (b : Bool) (hb : decide (9223372036854775808 ≤ x) = b) : Calls Tryd.prog 50 #[.float .f64 x] w (RetX w (.bool b)) := by
  have hbits := f64bits x
  by_cases h : 9223372036854775808 ≤ x
  · have hw : IntKind.i64.wrap (x : Int) = x - 18446744073709551616 := by simp [IntKind.wrap, IntKind.bits, IntKind.signed]; omega
    have f : decide ((x : Int) - 18446744073709551616 < 0) = b := by rw [← hb, decide_eq_true h, decide_eq_true (by omega)]
    have HB := Lib.hid f; clear hb f
    go_enter Tryd.func50, Tryd.ntmps50
    go_wp2
    go_ret
    exact ⟨congrArg (fun z => Ending.returned (Value.bool z)) HB.out, rfl⟩
  · have hw : IntKind.i64.wrap (x : Int) = x := by simp [IntKind.wrap, IntKind.bits, IntKind.signed]; omega
    have f : decide ((x : Int) < 0) = b := by rw [← hb, decide_eq_false h, decide_eq_false (by omega)]
    have HB := Lib.hid f; clear hb f
    go_enter Tryd.func50, Tryd.ntmps50
    go_wp2
    go_ret
    exact ⟨congrArg (fun z => Ending.returned (Value.bool z)) HB.out, rfl⟩
set_option maxHeartbeats 4000000 in
theorem forder_calls (x y : Nat) (hx : x < 18446744073709551616) (hy : y < 18446744073709551616) (w : World) (r : Int) (hr : OrdR x y r) : Calls Tryd.prog 23 #[.float .f64 x, .float .f64 y] w (RetV w (.int .i64 r)) := by
  have hs : ∀ w v b, (v = x ∧ b = decide (9223372036854775808 ≤ x)) ∨ (v = y ∧ b = decide (9223372036854775808 ≤ y)) → Calls Tryd.prog 50 #[.float .f64 v] w (RetX w (.bool b)) := by
    rintro w v b (⟨rfl, rfl⟩ | ⟨rfl, rfl⟩)
    · exact fsignbit_calls _ hx w _ rfl
    · exact fsignbit_calls _ hy w _ rfl
  have HS := Lib.hid hs; clear hs
  rcases hr with ⟨nx, ny, rfl⟩ | ⟨nx, ny, rfl⟩ | ⟨nx, ny, rfl⟩ | ⟨nx, ny, hp, rfl⟩ | ⟨nx, ny, hp, rfl⟩ | ⟨nx, ny, hp, rfl⟩ | ⟨nx, ny, hp, hq, rfl⟩ | ⟨nx, ny, hp, hq, rfl⟩
  · have o1 := order64_nan_l x nx
    have o2 := order64_nan_l y ny
    clear nx ny hx hy
    go_enter Tryd.func23, Tryd.ntmps23
    go_wp2
    go_ret
    exact ⟨rfl, Step.of⟩
  · have o1 := order64_nan_l x nx
    have o2 := order64_eq hy hy ny ny rfl
    clear nx ny hx hy
    go_enter Tryd.func23, Tryd.ntmps23
    go_wp2
    go_ret
    exact ⟨rfl, Step.of⟩
  · have o1 := order64_eq hx hx nx nx rfl
    have o2 := order64_nan_l y ny
    clear nx ny hx hy
    go_enter Tryd.func23, Tryd.ntmps23
    go_wp2
    go_ret
    exact ⟨rfl, Step.of⟩
  · have o1 := order64_eq hx hx nx nx rfl
    have o2 := order64_eq hy hy ny ny rfl
    have o3 := order64_lt hx hy nx ny hp
    clear nx ny hx hy
    go_enter Tryd.func23, Tryd.ntmps23
    go_wp2
    go_ret
    exact ⟨rfl, Step.of⟩
  · have o1 := order64_eq hx hx nx nx rfl
    have o2 := order64_eq hy hy ny ny rfl
    have o3 := order64_gt hx hy nx ny hp
    clear nx ny hx hy
    go_enter Tryd.func23, Tryd.ntmps23
    go_wp2
    go_ret
    exact ⟨rfl, Step.of⟩
  · subst hp
    have o1 := order64_eq hx hx nx nx rfl
    clear nx ny hx hy
    go_enter Tryd.func23, Tryd.ntmps23
    go_wp2_with (first | (go_at_call 50; refine use (HS.out _ _ _ (.inl ⟨rfl, rfl⟩)) ?_; rintro e w1 ⟨rfl, rfl⟩))
    go_ret
    exact ⟨rfl, Step.of⟩
  · subst hp; subst hq
    have o1 := order64_eq hx hx nx nx rfl
    have o2 := order64_eq hy hy ny ny rfl
    have o3 := order64_eq hx hy nx ny (by decide)
    clear nx ny hx hy
    go_enter Tryd.func23, Tryd.ntmps23
    go_wp2_with (first | (go_at_call 50; refine use (HS.out _ _ _ (by first | exact .inl ⟨rfl, rfl⟩ | exact .inr ⟨rfl, rfl⟩)) ?_; rintro e w1 ⟨rfl, rfl⟩))
    go_ret
    exact ⟨rfl, Step.of⟩
  · subst hp; subst hq
    have o1 := order64_eq hx hx nx nx rfl
    have o2 := order64_eq hy hy ny ny rfl
    have o3 := order64_eq hx hy nx ny (by decide)
    clear nx ny hx hy
    go_enter Tryd.func23, Tryd.ntmps23
    go_wp2_with (first | (go_at_call 50; refine use (HS.out _ _ _ (by first | exact .inl ⟨rfl, rfl⟩ | exact .inr ⟨rfl, rfl⟩)) ?_; rintro e w1 ⟨rfl, rfl⟩))
    go_ret
    exact ⟨rfl, Step.of⟩
theorem fsame_calls (x y : Nat) (hx : x < 18446744073709551616) (hy : y < 18446744073709551616) (w : World) (r : Int) (hr : OrdR x y r) : Calls Tryd.prog 25 #[.float .f64 x, .float .f64 y] w (RetV w (.bool (r == 0))) := by
  have ho := fun w => forder_calls x y hx hy w r hr
  go_enter Tryd.func25, Tryd.ntmps25
  go_wp2_with (first | (go_at_call 23; refine use (ho _) ?_; rintro e w1 ⟨rfl, hs1⟩))
  go_ret
  exact ⟨rfl, Step.of⟩
theorem fplace_calls (x : Nat) (hx : x < 18446744073709551616) (w : World) (r : Int) (hr : plc x = r) : Calls Tryd.prog 52 #[.float .f64 x] w (RetX w (.int .i64 r)) := by
  have hbits := f64bits x
  have ha := u64_low63 x hx
  have hs := fsignbit_calls x hx
  have HR := Lib.hid hr; clear hr
  have hw : IntKind.i64.wrap ((x % 9223372036854775808 : Nat) : Int) = (x % 9223372036854775808 : Nat) := by simp [IntKind.wrap, IntKind.bits, IntKind.signed]; omega
  by_cases h : 9223372036854775808 ≤ x
  · go_enter Tryd.func52, Tryd.ntmps52
    go_wp2_with (first | (go_at_call 50; refine use (hs _ true (decide_eq_true h)) ?_; rintro e w1 ⟨rfl, rfl⟩))
    go_ret
    refine ⟨congrArg (fun z => Ending.returned (Value.int .i64 z)) ?_, rfl⟩
    rw [← HR.out]; unfold plc; rw [if_pos h]; omega
  · go_enter Tryd.func52, Tryd.ntmps52
    go_wp2_with (first | (go_at_call 50; refine use (hs _ false (decide_eq_false h)) ?_; rintro e w1 ⟨rfl, rfl⟩))
    go_ret
    refine ⟨congrArg (fun z => Ending.returned (Value.int .i64 z)) ?_, rfl⟩
    rw [← HR.out]; unfold plc; rw [if_neg h]; omega
theorem rplace_calls (x : Nat) (hx : x < 18446744073709551616) (w : World) (r : Int) (hr : plc x = r) : Calls Tryd.prog 51 #[.int .u64 x] w (RetX w (.int .i64 r)) := by
  have ha := u64_low63 x hx
  have HR := Lib.hid hr; clear hr
  have hw : IntKind.i64.wrap ((x % 9223372036854775808 : Nat) : Int) = (x % 9223372036854775808 : Nat) := by simp [IntKind.wrap, IntKind.bits, IntKind.signed]; omega
  have hl : ((x % 9223372036854775808 : Nat) : Int) < 9223372036854775808 := by omega
  have hl0 : 0 ≤ ((x % 9223372036854775808 : Nat) : Int) := by omega
  by_cases h : 9223372036854775808 ≤ x
  · have hv : -((x % 9223372036854775808 : Nat) : Int) = r := by
      rw [← HR.out]; unfold plc; rw [if_pos h]; omega
    have hX : 9223372036854775808 ≤ (x : Int) := by omega
    clear HR hx h
    have HV := Lib.hid hv; clear hv
    generalize ((x % 9223372036854775808 : Nat) : Int) = y at *
    generalize (x : Int) = X at *
    go_enter Tryd.func51, Tryd.ntmps51
    go_wp2
    go_ret
    exact ⟨congrArg (fun z => Ending.returned (Value.int .i64 z)) HV.out, rfl⟩
  · have hv : ((x % 9223372036854775808 : Nat) : Int) = r := by
      rw [← HR.out]; unfold plc; rw [if_neg h]; omega
    have hX : (x : Int) < 9223372036854775808 := by omega
    clear HR hx h
    have HV := Lib.hid hv; clear hv
    generalize ((x % 9223372036854775808 : Nat) : Int) = y at *
    generalize (x : Int) = X at *
    go_enter Tryd.func51, Tryd.ntmps51
    go_wp2
    go_ret
    exact ⟨congrArg (fun z => Ending.returned (Value.int .i64 z)) HV.out, rfl⟩
end Tt
