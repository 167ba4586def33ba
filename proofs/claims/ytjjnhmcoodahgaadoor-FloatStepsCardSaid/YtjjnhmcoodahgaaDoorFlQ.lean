/- Plain: how two floats stand to each other, by where their bits stand. -/
import Derived.Laws.FloatBits
import GoSem.Core.Float
namespace Tt
open Ieee
set_option linter.unusedSimpArgs false
set_option linter.unusedVariables false

/-- The size of a rung, in the least places. -/
def magR (B r : Nat) : Nat := if r < B then r else (B + r % B) * 2 ^ (r / B - 1)
theorem magR_zero {B : Nat} (hB : 0 < B) : magR B 0 = 0 := by unfold magR; rw [if_pos hB]
theorem magR_lt_pow {B r : Nat} (hB : 0 < B) : magR B r < B * 2 ^ (r / B) := by
  unfold magR
  split
  · rename_i h
    rw [Nat.div_eq_of_lt h]; omega
  · rename_i h
    have h1 : 1 ≤ r / B := (Nat.one_le_div_iff hB).2 (by omega)
    have h2 := Nat.mod_lt r hB
    obtain ⟨k, hk⟩ : ∃ k, r / B = k + 1 := ⟨r / B - 1, by omega⟩
    rw [hk, Nat.add_sub_cancel, Nat.pow_succ, Nat.mul_comm (2 ^ k) 2, ← Nat.mul_assoc]
    exact Nat.mul_lt_mul_of_pos_right (by omega) (Nat.two_pow_pos k)
theorem magR_ge {B s e : Nat} (hB : 0 < B) (h : e < s / B) : B * 2 ^ e ≤ magR B s := by
  unfold magR
  split
  · rename_i h2
    rw [Nat.div_eq_of_lt h2] at h; omega
  · refine Nat.mul_le_mul (by omega) (Nat.pow_le_pow_right (by omega) (by omega))
theorem magR_lt {B r s : Nat} (hB : 0 < B) (h : r < s) : magR B r < magR B s := by
  have hd : r / B ≤ s / B := Nat.div_le_div_right (by omega)
  rcases Nat.lt_or_ge (r / B) (s / B) with h1 | h1
  · exact Nat.lt_of_lt_of_le (magR_lt_pow hB) (magR_ge hB h1)
  · have he : r / B = s / B := by omega
    have e1 := Nat.div_add_mod r B
    have e2 := Nat.div_add_mod s B
    have hm : r % B < s % B := by rw [he] at e1; omega
    unfold magR
    by_cases hr : r < B
    · have : s < B := by
        rw [Nat.div_eq_of_lt hr] at he
        exact (Nat.div_eq_zero_iff_lt hB).1 he.symm
      rw [if_pos hr, if_pos this]; exact h
    · have : ¬ s < B := by omega
      rw [if_neg hr, if_neg this, he]
      exact Nat.mul_lt_mul_of_pos_right (by omega) (Nat.two_pow_pos _)
/-- Where a sign and a rung stand. -/
def plcR (s : Bool) (r : Nat) : Int := if s then -(r : Int) else r
theorem cmp_sval {B : Nat} (hB : 0 < B) (s t : Bool) (r u : Nat) : compare (plcR s (magR B r)) (plcR t (magR B u)) = compare (plcR s r) (plcR t u) := by
  have hz := magR_zero hB
  have m1 : ∀ a b, a < b → magR B a < magR B b := fun a b h => magR_lt hB h
  have p1 : 0 < r → 0 < magR B r := fun h => by have := m1 _ _ h; omega
  have p2 : 0 < u → 0 < magR B u := fun h => by have := m1 _ _ h; omega
  have z1 : r = 0 → magR B r = 0 := fun h => by rw [h, hz]
  have z2 : u = 0 → magR B u = 0 := fun h => by rw [h, hz]
  have key : ∀ (a b c d : Int), (a < b ↔ c < d) → (a = b ↔ c = d) → compare a b = compare c d := by
    intro a b c d h1 h2
    rw [Int.compare_eq_ite_lt, Int.compare_eq_ite_lt]
    by_cases q1 : a < b
    · rw [if_pos q1, if_pos (h1.1 q1)]
    · rw [if_neg q1, if_neg (fun h => q1 (h1.2 h))]
      by_cases q2 : a = b
      · have := h2.1 q2
        rw [if_neg (by omega), if_neg (by omega)]
      · have : c ≠ d := fun h => q2 (h2.2 h)
        have : ¬ c < d := fun h => q1 (h1.2 h)
        rw [if_pos (by omega), if_pos (by omega)]
  rcases Nat.lt_trichotomy r u with h | h | h
  · have := m1 _ _ h
    apply key <;> unfold plcR <;> cases s <;> cases t <;> simp only [if_true, if_false, Bool.false_eq_true] <;> rcases Nat.eq_zero_or_pos r with h0 | h0 <;> first | (have := z1 h0; have := p2 (by omega); omega) | (have := p1 h0; have := p2 (by omega); omega)
  · subst h
    apply key <;> unfold plcR <;> cases s <;> cases t <;> simp only [if_true, if_false, Bool.false_eq_true] <;> rcases Nat.eq_zero_or_pos r with h0 | h0 <;> first | (have := z1 h0; omega) | (have := p1 h0; omega)
  · have := m1 _ _ h
    apply key <;> unfold plcR <;> cases s <;> cases t <;> simp only [if_true, if_false, Bool.false_eq_true] <;> rcases Nat.eq_zero_or_pos u with h0 | h0 <;> first | (have := z2 h0; have := p1 (by omega); omega) | (have := p2 h0; have := p1 (by omega); omega)
theorem cmp_scale (a b : Int) (c : Nat) (hc : 0 < c) : compare (a * c) (b * c) = compare a b := by
  have h : (0 : Int) < c := by omega
  rw [Int.compare_eq_ite_lt, Int.compare_eq_ite_lt]
  by_cases q1 : a < b
  · rw [if_pos q1, if_pos ((Int.mul_lt_mul_right h).2 q1)]
  · rw [if_neg q1, if_neg (fun k => q1 ((Int.mul_lt_mul_right h).1 k))]
    by_cases q2 : b < a
    · rw [if_pos q2, if_pos ((Int.mul_lt_mul_right h).2 q2)]
    · rw [if_neg q2, if_neg (fun k => q2 ((Int.mul_lt_mul_right h).1 k))]
theorem read_cases (f : Format) (x : Nat) (hBI : f.binade ≤ f.infRung) (h : x % f.signWeight ≤ f.infRung) :
    (∃ m i, f.read x = .number (x / f.signWeight % 2 == 1) m i ∧ f.leastPlace ≤ i ∧ m * 2 ^ (i - f.leastPlace).toNat = magR f.binade (x % f.signWeight) ∧ x % f.signWeight < f.infRung) ∨
    (f.read x = .infinity (x / f.signWeight % 2 == 1) ∧ x % f.signWeight = f.infRung) := by
  unfold Format.read magR
  dsimp only
  by_cases h1 : x % f.signWeight < f.binade
  · rw [if_pos h1, if_pos h1]
    exact .inl ⟨_, _, rfl, Int.le_refl _, by simp, by omega⟩
  · rw [if_neg h1, if_neg h1]
    by_cases h2 : x % f.signWeight < f.infRung
    · rw [if_pos h2]
      exact .inl ⟨_, _, rfl, by omega, by congr 2; omega, h2⟩
    · rw [if_neg h2, if_pos (by omega)]
      exact .inr ⟨rfl, by omega⟩
theorem signed_eq (s : Bool) (m k : Nat) : signed s m k = plcR s (m * 2 ^ k) := by
  unfold signed plcR
  cases s <;> simp [Nat.shiftLeft_eq]
theorem plcR_mul (s : Bool) (a c : Nat) : plcR s a * c = plcR s (a * c) := by
  unfold plcR
  cases s <;> simp [Int.neg_mul]
/-- HOW TWO FLOATS STAND TO EACH OTHER. -/
theorem order_plc (f : Format) (x y : Nat) (hBI : f.binade ≤ f.infRung) (hx : x % f.signWeight ≤ f.infRung) (hy : y % f.signWeight ≤ f.infRung) :
    f.order x y = some (compare (plcR (x / f.signWeight % 2 == 1) (x % f.signWeight)) (plcR (y / f.signWeight % 2 == 1) (y % f.signWeight))) := by
  have hB : 0 < f.binade := Nat.two_pow_pos _
  unfold Format.order
  rcases read_cases f x hBI hx with ⟨m, i, e1, l1, v1, b1⟩ | ⟨e1, b1⟩ <;> rcases read_cases f y hBI hy with ⟨n, j, e2, l2, v2, b2⟩ | ⟨e2, b2⟩ <;> rw [e1, e2] <;> generalize (x / f.signWeight % 2 == 1) = s <;> generalize (y / f.signWeight % 2 == 1) = t
  · show some (compare (signed s m (i - min i j).toNat) (signed t n (j - min i j).toNat)) = _
    rw [signed_eq, signed_eq, ← cmp_sval hB s t (x % f.signWeight) (y % f.signWeight), ← v1, ← v2, ← cmp_scale _ _ (2 ^ (min i j - f.leastPlace).toNat) (Nat.two_pow_pos _), plcR_mul, plcR_mul, Nat.mul_assoc, Nat.mul_assoc, ← Nat.pow_add, ← Nat.pow_add]
    congr 4 <;> congr 2 <;> omega
  · show some (if t then Ordering.gt else Ordering.lt) = _
    congr 1
    rw [Int.compare_eq_ite_lt]
    unfold plcR
    cases s <;> cases t <;> simp only [if_true, if_false, Bool.false_eq_true] <;> first | rw [if_pos (by omega)] | rw [if_neg (by omega), if_pos (by omega)]
  · show some (if s then Ordering.lt else Ordering.gt) = _
    congr 1
    rw [Int.compare_eq_ite_lt]
    unfold plcR
    cases s <;> cases t <;> simp only [if_true, if_false, Bool.false_eq_true] <;> first | rw [if_pos (by omega)] | rw [if_neg (by omega), if_pos (by omega)]
  · show some (compare t.toNat s.toNat) = _
    congr 1
    rw [Int.compare_eq_ite_lt]
    unfold plcR
    cases s <;> cases t <;> simp only [if_true, if_false, Bool.false_eq_true] <;> first | rw [if_pos (by omega)] | rw [if_neg (by omega), if_pos (by omega)] | rw [if_neg (by omega), if_neg (by omega)]
    all_goals rfl
end Tt
