/- Plain: exact numbers by sign, numerator and denominator; how many bits they have. -/
import Derived.Test.YtjjnhmcoodahgaaDoorNat
namespace Tt
set_option linter.unusedSimpArgs false
set_option linter.unusedVariables false

/-- The number of a sign and a fraction. -/
def mkQ (neg : Bool) (n d : Nat) : Rat := mkRat (if neg then -(n : Int) else n) d
/-- The bits of a number: of the longer one of its two parts. -/
def hq (x : Rat) : Nat := max (bl x.num.natAbs) (bl x.den)
theorem bl_num (x : Rat) : bl x.num.natAbs ≤ hq x := Nat.le_max_left _ _
theorem bl_den (x : Rat) : bl x.den ≤ hq x := Nat.le_max_right _ _
theorem hq_le {x : Rat} {h : Nat} : hq x ≤ h ↔ bl x.num.natAbs ≤ h ∧ bl x.den ≤ h := Nat.max_le

theorem natAbs_sgn (neg : Bool) (n : Nat) : (if neg then -(n : Int) else (n : Int)).natAbs = n := by cases neg <;> simp
theorem mkQ_self (x : Rat) : mkQ (decide (x < 0)) x.num.natAbs x.den = x := by
  have h : (if decide (x < 0) = true then -(x.num.natAbs : Int) else (x.num.natAbs : Int)) = x.num := by
    by_cases q : x < 0
    · have : x.num < 0 := by rw [← Rat.not_le, ← Rat.num_nonneg] at q; omega
      simp only [q, decide_true, if_true]; omega
    · have : 0 ≤ x.num := by rw [Rat.num_nonneg]; exact Rat.not_lt.1 q
      simp only [q, decide_false, Bool.false_eq_true, if_false]; omega
  unfold mkQ
  rw [h, Rat.mkRat_self]
theorem mkQ_zero (neg : Bool) (d : Nat) : mkQ neg 0 d = 0 := by
  unfold mkQ
  cases neg <;> simp [Rat.mkRat_def]
  all_goals (intro; rfl)
theorem mkQ_num (neg : Bool) {n d : Nat} (hd : 0 < d) : (mkQ neg n d).num.natAbs = n / Nat.gcd n d := by
  unfold mkQ
  rw [Rat.num_mkRat, if_neg (by omega), natAbs_sgn, Nat.gcd_comm d n]
  cases neg
  · simp only [Bool.false_eq_true, if_false, ← Int.natCast_ediv, Int.natAbs_natCast]
  · have hg : (Nat.gcd n d : Int) ∣ (n : Int) := Int.natCast_dvd_natCast.2 (Nat.gcd_dvd_left n d)
    simp only [if_true]
    rw [Int.neg_ediv_of_dvd hg, Int.natAbs_neg, ← Int.natCast_ediv, Int.natAbs_natCast]
theorem mkQ_den (neg : Bool) {n d : Nat} (hd : 0 < d) : (mkQ neg n d).den = d / Nat.gcd n d := by
  unfold mkQ
  rw [Rat.den_mkRat, if_neg (by omega), natAbs_sgn, Nat.gcd_comm d n]
theorem mkQ_neg {neg : Bool} {n d : Nat} (hn : 0 < n) (hd : 0 < d) : decide (mkQ neg n d < 0) = neg := by
  have hg := Nat.gcd_pos_of_pos_left d hn
  have hp : 0 < n / Nat.gcd n d := Nat.div_pos (Nat.gcd_le_left d hn) hg
  have e : (mkQ neg n d).num = (if neg then -((n / Nat.gcd n d : Nat) : Int) else ((n / Nat.gcd n d : Nat) : Int)) := by
    unfold mkQ
    rw [Rat.num_mkRat, if_neg (by omega), natAbs_sgn, Nat.gcd_comm d n]
    cases neg
    · simp only [Bool.false_eq_true, if_false, ← Int.natCast_ediv]
    · have hg : (Nat.gcd n d : Int) ∣ (n : Int) := Int.natCast_dvd_natCast.2 (Nat.gcd_dvd_left n d)
      simp only [if_true]
      rw [Int.neg_ediv_of_dvd hg, ← Int.natCast_ediv]
  cases neg
  · simp only [Bool.false_eq_true, if_false] at e
    have h0 : 0 ≤ (mkQ false n d).num := by omega
    have := Rat.num_nonneg.1 h0
    simpa using Rat.not_lt.2 this
  · simp only [if_true] at e
    have : ¬ 0 ≤ (mkQ true n d).num := by omega
    rw [Rat.num_nonneg, Rat.not_le] at this
    simpa using this
theorem hq_mkQ (neg : Bool) {n d : Nat} (hd : 0 < d) {h : Nat} (h1 : bl n ≤ h) (h2 : bl d ≤ h) : hq (mkQ neg n d) ≤ h := by
  rw [hq_le, mkQ_num neg hd, mkQ_den neg hd]
  exact ⟨Nat.le_trans (bl_mono (Nat.div_le_self _ _)) h1, Nat.le_trans (bl_mono (Nat.div_le_self _ _)) h2⟩

theorem sgn_num (x : Rat) : x.num = if decide (x < 0) = true then -(x.num.natAbs : Int) else (x.num.natAbs : Int) := by
  by_cases q : x < 0
  · have : x.num < 0 := by rw [← Rat.not_le, ← Rat.num_nonneg] at q; omega
    simp only [q, decide_true, if_true]; omega
  · have : 0 ≤ x.num := by rw [Rat.num_nonneg]; exact Rat.not_lt.1 q
    simp only [q, decide_false, Bool.false_eq_true, if_false]; omega

theorem mkQ_mul (x y : Rat) : mkQ (decide (x < 0) != decide (y < 0)) (x.num.natAbs * y.num.natAbs) (x.den * y.den) = x * y := by
  conv => rhs; rw [← Rat.mkRat_self x, ← Rat.mkRat_self y, Rat.mkRat_mul_mkRat]
  unfold mkQ
  congr 1
  conv => rhs; rw [sgn_num x, sgn_num y]
  cases decide (x < 0) <;> cases decide (y < 0) <;> simp [Int.natCast_mul, Int.neg_mul, Int.mul_neg]

theorem mkQ_add (x y : Rat) :
    (decide (x < 0) = decide (y < 0) → mkQ (decide (x < 0)) (x.num.natAbs * y.den + y.num.natAbs * x.den) (x.den * y.den) = x + y) ∧
    (decide (x < 0) ≠ decide (y < 0) → (y.num.natAbs * x.den ≤ x.num.natAbs * y.den → mkQ (decide (x < 0)) (x.num.natAbs * y.den - y.num.natAbs * x.den) (x.den * y.den) = x + y) ∧
      (x.num.natAbs * y.den ≤ y.num.natAbs * x.den → mkQ (decide (y < 0)) (y.num.natAbs * x.den - x.num.natAbs * y.den) (x.den * y.den) = x + y)) := by
  have e : x + y = mkRat (x.num * y.den + y.num * x.den) (x.den * y.den) := by
    conv => lhs; rw [← Rat.mkRat_self x, ← Rat.mkRat_self y, Rat.mkRat_add_mkRat _ _ x.den_nz y.den_nz]
  rw [e]
  have ex := sgn_num x
  have ey := sgn_num y
  unfold mkQ
  generalize x.num.natAbs = xn at *
  generalize y.num.natAbs = yn at *
  generalize x.den = xd at *
  generalize y.den = yd at *
  rw [ex, ey]
  generalize decide (x < 0) = sx
  generalize decide (y < 0) = sy
  refine ⟨fun h => ?_, fun h => ⟨fun hle => ?_, fun hle => ?_⟩⟩
  · subst h; congr 1
    cases sx
    · simp
    · simp [Int.neg_mul]; omega
  · congr 1
    have h2 : ((yn * xd : Nat) : Int) ≤ ((xn * yd : Nat) : Int) := by exact_mod_cast hle
    cases sx <;> cases sy <;> simp_all [Int.neg_mul, Int.natCast_sub hle] <;> omega
  · congr 1
    have h2 : ((xn * yd : Nat) : Int) ≤ ((yn * xd : Nat) : Int) := by exact_mod_cast hle
    cases sx <;> cases sy <;> simp_all [Int.neg_mul, Int.natCast_sub hle] <;> omega

theorem hq_mul (x y : Rat) : hq (x * y) ≤ hq x + hq y := by
  rw [← mkQ_mul]
  have a := bl_num x; have b := bl_den x; have c := bl_num y; have d := bl_den y
  exact hq_mkQ _ (Nat.mul_pos x.den_pos y.den_pos) (Nat.le_trans (bl_mul _ _) (by omega)) (Nat.le_trans (bl_mul _ _) (by omega))
theorem hq_add (x y : Rat) : hq (x + y) ≤ hq x + hq y + 1 := by
  have a := bl_num x; have b := bl_den x; have c := bl_num y; have d := bl_den y
  have m1 := lt_bl (x.num.natAbs * y.den)
  have m2 := lt_bl (y.num.natAbs * x.den)
  have n1 := bl_mul x.num.natAbs y.den
  have n2 := bl_mul y.num.natAbs x.den
  have key : ∀ k, k ≤ x.num.natAbs * y.den + y.num.natAbs * x.den → bl k ≤ hq x + hq y + 1 := by
    intro k hk
    rw [bl_le, Nat.pow_succ]
    have p1 : 2 ^ bl (x.num.natAbs * y.den) ≤ 2 ^ (hq x + hq y) := Nat.pow_le_pow_right (by omega) (by omega)
    have p2 : 2 ^ bl (y.num.natAbs * x.den) ≤ 2 ^ (hq x + hq y) := Nat.pow_le_pow_right (by omega) (by omega)
    omega
  have hd : bl (x.den * y.den) ≤ hq x + hq y + 1 := Nat.le_trans (bl_mul _ _) (by omega)
  have hp := Nat.mul_pos x.den_pos y.den_pos
  obtain ⟨e1, e2⟩ := mkQ_add x y
  by_cases q : decide (x < 0) = decide (y < 0)
  · rw [← e1 q]; exact hq_mkQ _ hp (key _ (Nat.le_refl _)) hd
  · obtain ⟨e3, e4⟩ := e2 q
    rcases Nat.le_total (y.num.natAbs * x.den) (x.num.natAbs * y.den) with h | h
    · rw [← e3 h]; exact hq_mkQ _ hp (key _ (by omega)) hd
    · rw [← e4 h]; exact hq_mkQ _ hp (key _ (by omega)) hd

end Tt
