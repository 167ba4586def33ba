/- Floats by their bits: finite, Gap of the program. -/
import Derived.Test.YtjjnhmcoodahgaaDoorFmF
namespace Tt
open Go Go.RowKit Go.Proofs
set_option linter.unusedSimpArgs false
set_option linter.unusedVariables false
set_option maxRecDepth 100000

theorem sub_self_f (f : Ieee.Format) (b : Nat) (hBI : f.binade ≤ f.infRung) (h : b % f.signWeight < f.infRung) : f.sub b b = some 0 := by
  rcases read_cases f b hBI (by omega) with ⟨m, i, e1, _, _, _⟩ | ⟨_, e2⟩
  · unfold Ieee.Format.sub
    rw [e1]
    generalize (b / f.signWeight % 2 == 1) = s
    have ht : Ieee.signed s m (i - min i i).toNat + Ieee.signed (!s) m (i - min i i).toNat = 0 := by
      unfold Ieee.signed
      cases s <;> simp <;> omega
    show (some (Ieee.Datum.number (if Ieee.signed s m (i - min i i).toNat + Ieee.signed (!s) m (i - min i i).toNat = 0 then s && !s else decide (Ieee.signed s m (i - min i i).toNat + Ieee.signed (!s) m (i - min i i).toNat < 0)) (Ieee.signed s m (i - min i i).toNat + Ieee.signed (!s) m (i - min i i).toNat).natAbs (min i i))).map f.write = some 0
    rw [ht, if_pos rfl]
    cases s <;> rfl
  · omega
theorem sub_self_inf (f : Ieee.Format) (b : Nat) (hBI : f.binade ≤ f.infRung) (h : f.infRung ≤ b % f.signWeight) : f.sub b b = none := by
  unfold Ieee.Format.sub
  rcases Nat.lt_or_ge f.infRung (b % f.signWeight) with h2 | h2
  · have hr : f.read b = .nan (b / f.signWeight % 2 == 1) (b % f.signWeight - f.infRung) := by
      unfold Ieee.Format.read
      dsimp only
      rw [if_neg (by omega), if_neg (by omega), if_neg (by omega)]
    rw [hr]; rfl
  · rcases read_cases f b hBI (by omega) with ⟨m, i, e1, _, _, h3⟩ | ⟨e1, _⟩
    · omega
    · rw [e1]
      generalize (b / f.signWeight % 2 == 1) = s
      cases s <;> rfl
theorem sub_self64 {b : Nat} (hb : b < 18446744073709551616) : floatBits .sub .f64 b b = if b / 4503599627370496 % 2048 = 2047 then none else some 0 := by
  have a1 : Ieee.double.signWeight = 9223372036854775808 := by decide +kernel
  have a2 : Ieee.double.binade = 4503599627370496 := by decide +kernel
  have a3 : Ieee.double.infRung = 9218868437227405312 := by decide +kernel
  show Ieee.double.sub b b = _
  split
  · exact sub_self_inf _ b (by rw [a2, a3]; omega) (by rw [a1, a3]; omega)
  · exact sub_self_f _ b (by rw [a2, a3]; omega) (by rw [a1, a3]; omega)
theorem sub_nan {b : Nat} (h : floatBits .sub .f64 b b = none) (w : World) : ∃ n, isNaN64 n ∧ (binOp .sub 28 (.float .f64 b) (.float .f64 b)).run Tryd.prog w = .ok (.float .f64 n) w.drew := by
  have h : FloatKind.f64.format.sub b b = none := h
  refine ⟨_, ?_, by simp [binOp, Op.floatArith, h, Question.forced]; rfl⟩
  unfold isNaN64
  simp only [Question.cut]
  generalize w.tape w.drawn (Question.nanBits FloatKind.f64 b b) = t
  have hv : t / 2 % (2 ^ 52 - 1) ≤ 4503599627370494 := by have := Nat.mod_lt (t / 2) (show 2 ^ 52 - 1 > 0 by decide); omega
  generalize t / 2 % (2 ^ 52 - 1) = v at hv ⊢
  have hu : t % 2 = 0 ∨ t % 2 = 1 := by omega
  generalize t % 2 = u at hu ⊢
  rcases hu with rfl | rfl <;> omega
theorem ffinite_calls (b : Nat) (hb : b < 18446744073709551616) (w : World) (r : Bool) (hr : decide (b / 4503599627370496 % 2048 ≠ 2047) = r) : Calls Tryd.prog 53 #[.float .f64 b] w (RetV w (.bool r)) := by
  have hs := sub_self64 hb
  by_cases h : b / 4503599627370496 % 2048 = 2047
  · rw [if_pos h] at hs
    obtain ⟨n, hn, hrun⟩ := sub_nan hs w
    have o1 := order64_nan_l 0 hn
    have : r = false := by rw [← hr]; exact decide_eq_false (by omega)
    subst this
    clear hs hr h hn hb
    go_enter Tryd.func53, Tryd.ntmps53
    go_wp2
    go_ret
    exact ⟨rfl, Step.of⟩
  · rw [if_neg h] at hs
    have hrun := fun w => run_float_arith (P := Tryd.prog) w .sub 28 .f64 _ _ _ hs
    have o1 : FloatKind.f64.format.order 0 0 = some .eq := by decide +kernel
    have : r = true := by rw [← hr]; exact decide_eq_true h
    subst this
    clear hs hr h hb
    go_enter Tryd.func53, Tryd.ntmps53
    go_wp2
    go_ret
    exact ⟨rfl, Step.of⟩
end Tt
