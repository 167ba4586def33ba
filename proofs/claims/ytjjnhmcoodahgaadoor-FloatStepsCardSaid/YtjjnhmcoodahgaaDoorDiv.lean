/- Division of lists of limbs, digit by digit (Knuth's algorithm D): the plain law. No Go in sight. -/
import Derived.Test.YtjjnhmcoodahgaaDoorNat
namespace Tt
set_option linter.unusedSimpArgs false
set_option linter.unusedVariables false

theorem val_split (B : Int) (l : List Int) (k : Nat) : val B l = val B (l.take k) + B ^ (min k l.length) * val B (l.drop k) := by
  have := val_append B (l.take k) (l.drop k)
  rwa [List.take_append_drop, List.length_take] at this
theorem val_split' (B : Int) (l : List Int) (k : Nat) (h : k ≤ l.length) : val B l = val B (l.take k) + B ^ k * val B (l.drop k) := by
  rw [val_split B l k, Nat.min_eq_left h]
theorem rd_zero_of_lt {B : Int} (hB : 1 < B) {l : List Int} (r : Rng B l) {n : Nat} (h : val B l < B ^ n) (i : Nat) (hi : n ≤ i) : rd l i = 0 := by
  by_cases hl : i < l.length
  · have h0 := r i hl
    rcases Int.lt_or_le 0 (rd l i) with h1 | h1
    · exfalso
      have e1 := val_split' B l i (by omega)
      rw [drop_more B l i hl] at e1
      have a := val_nonneg (by omega : 0 < B) (r.take i)
      have b := val_nonneg (by omega : 0 < B) (r.drop (i + 1))
      have c := Int.mul_nonneg (Int.le_of_lt (by omega : 0 < B)) b
      have p := pow_pos' (by omega : 0 < B) i
      have p2 : B ^ n ≤ B ^ i := pow_le_pow (by omega) hi
      have d : B ^ i * 1 ≤ B ^ i * (rd l i + B * val B (l.drop (i + 1))) := Int.mul_le_mul_of_nonneg_left (by omega) (by omega)
      omega
    · omega
  · exact rd_ge _ _ (by omega)

/-- The two highest limbs of v, and what is below. -/
theorem split2 (B : Int) (v : List Int) (n : Nat) (hn : v.length = n + 2) : val B v = val B (v.take n) + B ^ n * (rd v n + B * rd v (n + 1)) := by
  rw [val_split' B v n (by omega), drop_more B v n (by omega), drop_more B v (n + 1) (by omega), List.drop_of_length_le (by omega)]
  simp
theorem split3 (B : Int) (x : List Int) (n : Nat) (hn : n + 2 < x.length) (hz : ∀ i, n + 3 ≤ i → rd x i = 0) : val B x = val B (x.take n) + B ^ n * (rd x n + B * rd x (n + 1) + B * B * rd x (n + 2)) := by
  have z : val B (x.drop (n + 3)) = 0 := by
    have := val_take_zs B (l := x.drop (n + 3)) (k := 0) (fun i _ => by rw [rd_drop]; exact hz _ (by omega))
    simpa using this.symm
  rw [val_split' B x n (by omega), drop_more B x n (by omega), drop_more B x (n + 1) (by omega), drop_more B x (n + 2) (by omega), z]
  congr 2
  rw [Int.mul_zero, Int.add_zero, Int.mul_add, Int.mul_assoc, Int.add_assoc]

/-- The state of the division: J digits are still to be found. -/
def KInv (B : Int) (v : List Int) (U : Int) (L J : Nat) (u q : List Int) : Prop :=
  u.length = L ∧ q.length = L - v.length ∧ J ≤ L - v.length ∧ Rng B u ∧ Rng B q ∧ (∀ i, i < J → rd q i = 0) ∧ val B u + val B v * val B q = U ∧ val B (u.drop J) < val B v

theorem KInv.zero {B : Int} (hB : 1 < B) {v u : List Int} {L : Nat} (hu : u.length = L) (ru : Rng B u) (hlt : val B (u.drop (L - v.length)) < val B v) : KInv B v (val B u) L (L - v.length) u (List.replicate (L - v.length) 0) :=
  ⟨hu, by simp, Nat.le_refl _, ru, Rng.replicate (by omega) _, fun i _ => rd_replicate _ _, by rw [val_replicate]; simp, hlt⟩

theorem KInv.fin {B : Int} (hB : 1 < B) {v u q : List Int} {U : Int} {L : Nat} (h : KInv B v U L 0 u q) : 0 ≤ val B u ∧ val B u < val B v ∧ val B q = U / val B v ∧ val B u = U % val B v := by
  obtain ⟨h1, h2, h3, h4, h5, h6, h7, h8⟩ := h
  have a := val_nonneg (by omega : 0 < B) h4
  simp only [List.drop_zero] at h8
  have hv : 0 < val B v := by omega
  refine ⟨a, h8, ?_, ?_⟩
  · rw [← h7, Int.add_mul_ediv_left _ _ (by omega), Int.ediv_eq_zero_of_lt a h8, Int.zero_add]
  · rw [← h7, Int.add_mul_emod_self_left]; exact (Int.emod_eq_of_lt a h8).symm

/-- What is known of the window at j when its digit is sought. -/
structure Win (B : Int) (v u : List Int) (n j : Nat) : Prop where
  hB : 1 < B
  rv : Rng B v
  ru : Rng B u
  hv : v.length = n + 2
  hu : j + n + 2 < u.length
  hz : ∀ i, j + n + 3 ≤ i → rd u i = 0
  hp : 0 < val B v
  ht : 0 < rd v (n + 1)
  hlt : val B (u.drop j) < B * val B v

theorem KInv.win {B : Int} (hB : 1 < B) {v u q : List Int} {U : Int} {L n j : Nat} (h : KInv B v U L (j + 1) u q) (rv : Rng B v) (hv : v.length = n + 2) (ht : 0 < rd v (n + 1)) : Win B v u n j := by
  obtain ⟨h1, h2, h3, h4, h5, h6, h7, h8⟩ := h
  have b := val_lt (by omega : 0 < B) rv
  have hp := val_nonneg (by omega : 0 < B) (h4.drop (j + 1))
  refine ⟨hB, rv, h4, hv, by omega, fun i hi => ?_, by omega, ht, ?_⟩
  · have := rd_zero_of_lt hB (h4.drop (j + 1)) (n := n + 2) (by rw [← hv]; omega) (i - (j + 1)) (by omega)
    rw [rd_drop] at this
    rwa [show j + 1 + (i - (j + 1)) = i by omega] at this
  · rw [drop_more B u j (by omega)]
    have a := h4 j (by omega)
    have c : B * (val B (u.drop (j + 1)) + 1) ≤ B * val B v := Int.mul_le_mul_of_nonneg_left (by omega) (by omega)
    have d : B * (val B (u.drop (j + 1)) + 1) = B * val B (u.drop (j + 1)) + B := by grind
    omega

/-- The digit. -/
def dig (B : Int) (v u : List Int) (j : Nat) : Int := val B (u.drop j) / val B v
theorem Win.dig0 {B : Int} {v u : List Int} {n j : Nat} (h : Win B v u n j) : 0 ≤ dig B v u j :=
  Int.ediv_nonneg (val_nonneg (by have := h.hB; omega) (h.ru.drop j)) (by have := h.hp; omega)
theorem Win.dig1 {B : Int} {v u : List Int} {n j : Nat} (h : Win B v u n j) : dig B v u j < B :=
  Int.ediv_lt_of_lt_mul h.hp h.hlt
theorem Win.dig_le {B : Int} {v u : List Int} {n j : Nat} (h : Win B v u n j) : dig B v u j * val B v ≤ val B (u.drop j) := Int.ediv_mul_le _ (by have := h.hp; omega)
theorem Win.dig_gt {B : Int} {v u : List Int} {n j : Nat} (h : Win B v u n j) {g : Int} (hg : val B (u.drop j) < g * val B v) : dig B v u j < g := Int.ediv_lt_of_lt_mul h.hp hg
theorem Win.dig_eq {B : Int} {v u : List Int} {n j : Nat} (h : Win B v u n j) {g : Int} (hg : dig B v u j ≤ g) (h0 : g * val B v ≤ val B (u.drop j)) : g = dig B v u j := by
  have := (Int.le_ediv_iff_mul_le h.hp).2 h0
  exact Int.le_antisymm this hg

theorem Win.parts {B : Int} {v u : List Int} {n j : Nat} (h : Win B v u n j) :
    val B v = val B (v.take n) + B ^ n * (rd v n + B * rd v (n + 1)) ∧ val B (u.drop j) = val B ((u.drop j).take n) + B ^ n * (rd u (j + n) + B * rd u (j + n + 1) + B * B * rd u (j + n + 2)) ∧
      0 ≤ val B (v.take n) ∧ 0 ≤ val B ((u.drop j).take n) ∧ val B ((u.drop j).take n) < B ^ n ∧ 0 < B ^ n := by
  have hB := h.hB
  have hu := h.hu
  refine ⟨split2 B v n h.hv, ?_, val_nonneg (by omega) (h.rv.take n), val_nonneg (by omega) ((h.ru.drop j).take n), ?_, pow_pos' (by omega) n⟩
  · have := split3 B (u.drop j) n (by simp; omega) (fun i hi => by rw [rd_drop]; exact h.hz _ (by omega))
    rw [this]; simp only [rd_drop, ← Nat.add_assoc]
  · have := val_lt (by omega : 0 < B) ((h.ru.drop j).take n)
    rwa [List.length_take, List.length_drop, Nat.min_eq_left (by omega)] at this

/-- The first guess is not below the digit. -/
theorem Win.guess {B : Int} {v u : List Int} {n j : Nat} (h : Win B v u n j) : dig B v u j ≤ (rd u (j + n + 2) * B + rd u (j + n + 1)) / rd v (n + 1) := by
  obtain ⟨e1, e2, b1, b2, b3, p⟩ := h.parts
  have hB := h.hB
  have ht := h.ht
  have d0 := h.dig0
  have d2 := h.dig_le
  have a0 := h.rv.all (by omega) n
  have a1 := h.ru.all (by omega) (j + n)
  refine (Int.le_ediv_iff_mul_le ht).2 ?_
  generalize dig B v u j = Q at *
  -- Q * (B^n * (B * vt)) <= Q * V <= W < B^n * B * (top + 1)
  have q1 : Q * (B ^ n * (B * rd v (n + 1))) ≤ Q * val B v := by
    refine Int.mul_le_mul_of_nonneg_left ?_ d0
    rw [e1]
    have : B ^ n * (B * rd v (n + 1)) ≤ B ^ n * (rd v n + B * rd v (n + 1)) := Int.mul_le_mul_of_nonneg_left (by omega) (by omega)
    omega
  generalize rd u (j + n + 2) = x2 at *
  generalize rd u (j + n + 1) = x1 at *
  generalize rd u (j + n) = x0 at *
  generalize rd v (n + 1) = vt at *
  generalize rd v n = v2 at *
  have q2 : B ^ n * (x0 + B * x1 + B * B * x2) ≤ B ^ n * ((B - 1) + B * x1 + B * B * x2) := Int.mul_le_mul_of_nonneg_left (by omega) (by omega)
  generalize B ^ n = P at *
  have q3 : Q * (P * (B * vt)) < (P * B) * (x2 * B + x1 + 1) := by
    have : P * ((B - 1) + B * x1 + B * B * x2) + P = (P * B) * (x2 * B + x1 + 1) := by grind
    omega
  have q4 : Q * (P * (B * vt)) = (P * B) * (Q * vt) := by grind
  rw [q4] at q3
  have hPB : 0 < P * B := Int.mul_pos p (by omega)
  have := Int.lt_of_mul_lt_mul_left q3 (Int.le_of_lt hPB)
  omega

/-- A guess that the next limb refutes is above the digit. -/
theorem Win.above {B : Int} {v u : List Int} {n j : Nat} (h : Win B v u n j) {g : Int} (h0 : 0 ≤ g)
    (ht : (rd u (j + n + 2) * B + rd u (j + n + 1) - g * rd v (n + 1)) * B + rd u (j + n) < g * rd v n) : dig B v u j < g := by
  obtain ⟨e1, e2, b1, b2, b3, p⟩ := h.parts
  refine h.dig_gt ?_
  have q1 : g * (B ^ n * (rd v n + B * rd v (n + 1))) ≤ g * val B v := by
    refine Int.mul_le_mul_of_nonneg_left ?_ h0
    omega
  rw [e2]
  generalize rd u (j + n + 2) = x2 at *
  generalize rd u (j + n + 1) = x1 at *
  generalize rd u (j + n) = x0 at *
  generalize rd v (n + 1) = vt at *
  generalize rd v n = v2 at *
  have q2 : x0 + B * x1 + B * B * x2 + 1 ≤ g * (v2 + B * vt) := by
    have e : (x2 * B + x1 - g * vt) * B + x0 = x0 + B * x1 + B * B * x2 - g * (B * vt) := by grind
    have e' : g * (v2 + B * vt) = g * v2 + g * (B * vt) := by grind
    omega
  have q3 : B ^ n * (x0 + B * x1 + B * B * x2 + 1) ≤ B ^ n * (g * (v2 + B * vt)) := Int.mul_le_mul_of_nonneg_left q2 (by omega)
  generalize B ^ n = P at *
  have q4 : P * (g * (v2 + B * vt)) = g * (P * (v2 + B * vt)) := by grind
  have q5 : P * (x0 + B * x1 + B * B * x2 + 1) = P * (x0 + B * x1 + B * B * x2) + P := by grind
  omega

/-- A guess that the next limb doesn't refute is at most one above the digit, if v's highest limb is at least half. -/
theorem Win.near {B : Int} {v u : List Int} {n j : Nat} (h : Win B v u n j) {g : Int} (h1 : g < B)
    (ht : g * rd v n ≤ (rd u (j + n + 2) * B + rd u (j + n + 1) - g * rd v (n + 1)) * B + rd u (j + n)) : g ≤ dig B v u j + 1 := by
  obtain ⟨e1, e2, b1, b2, b3, p⟩ := h.parts
  have hB := h.hB
  by_cases h0 : g ≤ 0
  · have := h.dig0; omega
  have hvt := val_lt (by omega : 0 < B) (h.rv.take n)
  rw [List.length_take, Nat.min_eq_left (by have := h.hv; omega)] at hvt
  have a0 := h.rv.all (by omega) n
  have ht' := h.ht
  suffices hs : (g - 1) * val B v ≤ val B (u.drop j) by
    have := (Int.le_ediv_iff_mul_le h.hp).2 hs
    unfold dig; omega
  rw [e2]
  have q0 : g * val B (v.take n) ≤ g * B ^ n := Int.mul_le_mul_of_nonneg_left (by omega) (by omega)
  have q1 : g * B ^ n ≤ B * B ^ n := Int.mul_le_mul_of_nonneg_right (by omega) (by omega)
  have q2 : B ^ n * (B * 1) ≤ B ^ n * (rd v n + B * rd v (n + 1)) := by
    refine Int.mul_le_mul_of_nonneg_left ?_ (by omega)
    have : B * 1 ≤ B * rd v (n + 1) := Int.mul_le_mul_of_nonneg_left (by omega) (by omega)
    omega
  have e3 : (g - 1) * val B v = g * val B (v.take n) + g * (B ^ n * (rd v n + B * rd v (n + 1))) - val B v := by rw [e1]; grind
  rw [e3]
  generalize rd u (j + n + 2) = x2 at *
  generalize rd u (j + n + 1) = x1 at *
  generalize rd u (j + n) = x0 at *
  generalize rd v (n + 1) = vt at *
  generalize rd v n = v2 at *
  have q3 : g * (v2 + B * vt) ≤ x0 + B * x1 + B * B * x2 := by
    have e : (x2 * B + x1 - g * vt) * B + x0 = x0 + B * x1 + B * B * x2 - g * (B * vt) := by grind
    have e' : g * (v2 + B * vt) = g * v2 + g * (B * vt) := by grind
    omega
  have q4 : B ^ n * (g * (v2 + B * vt)) ≤ B ^ n * (x0 + B * x1 + B * B * x2) := Int.mul_le_mul_of_nonneg_left q3 (by omega)
  generalize B ^ n = P at *
  have q5 : P * (g * (v2 + B * vt)) = g * (P * (v2 + B * vt)) := by grind
  have q6 : P * (B * 1) = B * P := by grind
  omega

/-- Taking g times v away at j: after i limbs, with what is borrowed. -/
def SMInv (B : Int) (v : List Int) (g : Int) (j : Nat) (u0 : List Int) (i : Nat) (cy : Int) (u : List Int) : Prop :=
  0 ≤ cy ∧ cy ≤ B ∧ i ≤ v.length ∧ u.length = u0.length ∧ Rng B u ∧ (∀ k, k < j ∨ j + i ≤ k → rd u k = rd u0 k) ∧ val B u - cy * B ^ (j + i) = val B u0 - g * B ^ j * val B (v.take i)

theorem SMInv.zero {B : Int} (hB : 1 < B) {v : List Int} {g : Int} {j : Nat} {u0 : List Int} (r : Rng B u0) : SMInv B v g j u0 0 0 u0 := ⟨by omega, by omega, by omega, rfl, r, fun _ _ => rfl, by simp⟩

theorem SMInv.step {B : Int} (hB : 1 < B) {v : List Int} {g : Int} {j : Nat} {u0 : List Int} {i : Nat} {cy : Int} {u : List Int} (h : SMInv B v g j u0 i cy u) (hi : i < v.length) (hj : j + i < u0.length)
    {cy' s : Int} (c0 : 0 ≤ cy') (c1 : cy' ≤ B) (s0 : 0 ≤ s) (s1 : s < B) (hs : s = rd u (j + i) - cy - g * rd v i + cy' * B) : SMInv B v g j u0 (i + 1) cy' (u.set (j + i) s) := by
  obtain ⟨h0, h1, h2, h3, h4, h5, h6⟩ := h
  refine ⟨c0, c1, by omega, by simp [h3], h4.set _ s0 s1, fun k hk => ?_, ?_⟩
  · rw [rd_set_ne _ _ _ _ (by omega)]; exact h5 k (by omega)
  · rw [val_set _ _ _ _ (by omega), take_more, ← Nat.add_assoc, Int.pow_succ]
    have ep : B ^ (j + i) = B ^ j * B ^ i := Int.pow_add B j i
    generalize B ^ (j + i) = p at *
    generalize B ^ j = pj at *
    generalize B ^ i = pi at *
    generalize val B u = X at *
    generalize val B u0 = Y at *
    generalize val B (v.take i) = Z at *
    generalize rd u (j + i) = a at *
    generalize rd v i = b at *
    have h7 : X = Y - g * pj * Z + cy * p := by omega
    subst h7 ep hs
    grind

/-- The quotient's digit is g, or less: g times v has been taken away (limb j + n + 2 may be below nought). -/
def ABInv (B : Int) (v u0 : List Int) (n j : Nat) (g : Int) (u : List Int) : Prop :=
  dig B v u0 j ≤ g ∧ g < B ∧ u.length = u0.length ∧ (∀ k, k ≠ j + n + 2 → 0 ≤ rd u k ∧ rd u k < B) ∧ (∀ k, j + n + 2 < k → rd u k = 0) ∧ (∀ k, k < j → rd u k = rd u0 k) ∧
    -B ≤ rd u (j + n + 2) ∧ rd u (j + n + 2) < B ∧ val B u = val B u0 - g * B ^ j * val B v

theorem ABInv.start {B : Int} {v u0 : List Int} {n j : Nat} {g cy : Int} {u : List Int} (W : Win B v u0 n j) (hd : dig B v u0 j ≤ g) (hg : g < B) (h : SMInv B v g j u0 v.length cy u) :
    ABInv B v u0 n j g (u.set (j + n + 2) (rd u (j + n + 2) - cy)) := by
  obtain ⟨h0, h1, h2, h3, h4, h5, h6⟩ := h
  have hv := W.hv
  have hu := W.hu
  have hB := W.hB
  have a := h4.all (by omega) (j + n + 2)
  refine ⟨hd, hg, by simp [h3], fun k hk => ?_, fun k hk => ?_, fun k hk => ?_, ?_, ?_, ?_⟩
  · rw [rd_set_ne _ _ _ _ (by omega)]; exact h4.all (by omega) k
  · rw [rd_set_ne _ _ _ _ (by omega), h5 k (by omega)]; exact W.hz k (by omega)
  · rw [rd_set_ne _ _ _ _ (by omega)]; exact h5 k (by omega)
  · rw [rd_set_eq _ _ _ (by omega)]; omega
  · rw [rd_set_eq _ _ _ (by omega)]; omega
  · rw [val_set _ _ _ _ (by omega)]
    rw [val_take_ge B v v.length (Nat.le_refl _), hv, ← Nat.add_assoc] at h6
    have e : (rd u (j + n + 2) - cy - rd u (j + n + 2)) = -cy := by omega
    rw [e, Int.neg_mul]; omega

/-- What the window is worth. -/
theorem ABInv.window {B : Int} {v u0 : List Int} {n j : Nat} {g : Int} {u : List Int} (W : Win B v u0 n j) (h : ABInv B v u0 n j g u) : val B (u.drop j) = val B (u0.drop j) - g * val B v := by
  obtain ⟨h1, h2, h3, h4, h5, h6, h7, h8, h9⟩ := h
  have hu := W.hu
  have e1 := val_split' B u j (by omega)
  have e2 := val_split' B u0 j (by omega)
  have e3 : u.take j = u0.take j := ext_rd (by simp [h3]) fun i hi => by
    have : i < j := by simp at hi; omega
    rw [rd_take _ _ _ this, rd_take _ _ _ this]; exact h6 i this
  rw [e1, e2, e3] at h9
  have p := pow_pos' (by have := W.hB; omega : 0 < B) j
  have h10 : B ^ j * val B (u.drop j) = B ^ j * (val B (u0.drop j) - g * val B v) := by
    have : B ^ j * (val B (u0.drop j) - g * val B v) = B ^ j * val B (u0.drop j) - g * B ^ j * val B v := by grind
    omega
  exact Int.eq_of_mul_eq_mul_left (by omega) h10

theorem ABInv.split {B : Int} {v u0 : List Int} {n j : Nat} {g : Int} {u : List Int} (W : Win B v u0 n j) (h : ABInv B v u0 n j g u) :
    ∃ low, 0 ≤ low ∧ low < B ^ (n + 2) ∧ val B (u.drop j) = low + B ^ (n + 2) * rd u (j + n + 2) := by
  obtain ⟨h1, h2, h3, h4, h5, h6, h7, h8, h9⟩ := h
  have hu := W.hu
  have hB := W.hB
  have r : Rng B ((u.drop j).take (n + 2)) := fun i hi => by
    have : i < n + 2 := by simp at hi; omega
    rw [rd_take _ _ _ this, rd_drop]; exact h4 _ (by omega)
  have b := val_lt (by omega : 0 < B) r
  rw [List.length_take, List.length_drop, Nat.min_eq_left (by omega)] at b
  refine ⟨_, val_nonneg (by omega) r, b, ?_⟩
  have e := val_split' B (u.drop j) (n + 2) (by simp; omega)
  rw [drop_more B (u.drop j) (n + 2) (by simp; omega), rd_drop, ← Nat.add_assoc] at e
  have z : val B ((u.drop j).drop (n + 2 + 1)) = 0 := by
    have := val_take_zs B (l := (u.drop j).drop (n + 2 + 1)) (k := 0) (fun i _ => by rw [rd_drop, rd_drop]; exact h5 _ (by omega))
    simpa using this.symm
  rw [z, Int.mul_zero, Int.add_zero] at e
  exact e

theorem ABInv.low {B : Int} {v u0 : List Int} {n j : Nat} {g : Int} {u : List Int} (W : Win B v u0 n j) (h : ABInv B v u0 n j g u) (hn : rd u (j + n + 2) < 0) : dig B v u0 j < g := by
  obtain ⟨low, l0, l1, e⟩ := h.split W
  rw [h.window W] at e
  have p := pow_pos' (by have := W.hB; omega : 0 < B) (n + 2)
  have : B ^ (n + 2) * rd u (j + n + 2) ≤ B ^ (n + 2) * (-1) := Int.mul_le_mul_of_nonneg_left (by omega) (by omega)
  exact W.dig_gt (by omega)

theorem ABInv.done {B : Int} {v u0 : List Int} {n j : Nat} {g : Int} {u : List Int} (W : Win B v u0 n j) (h : ABInv B v u0 n j g u) (hn : 0 ≤ rd u (j + n + 2)) :
    g = dig B v u0 j ∧ Rng B u ∧ val B (u.drop j) < val B v := by
  obtain ⟨low, l0, l1, e⟩ := h.split W
  have hw := h.window W
  have p := pow_pos' (by have := W.hB; omega : 0 < B) (n + 2)
  have q : 0 ≤ B ^ (n + 2) * rd u (j + n + 2) := Int.mul_nonneg (by omega) hn
  have hg := W.dig_eq h.1 (by omega)
  refine ⟨hg, fun i hi => ?_, ?_⟩
  · by_cases hk : i = j + n + 2
    · subst hk; exact ⟨hn, h.2.2.2.2.2.2.2.1⟩
    · exact h.2.2.2.1 i hk
  · rw [hw, hg]
    unfold dig
    have := Int.emod_lt_of_pos (val B (u0.drop j)) W.hp
    have h2 := Int.emod_def (val B (u0.drop j)) (val B v)
    rw [Int.mul_comm]; omega

/-- Adding v back: after i limbs. -/
def BKInv (B : Int) (v : List Int) (j : Nat) (u1 : List Int) (i : Nat) (cy : Int) (u : List Int) : Prop :=
  0 ≤ cy ∧ cy ≤ 1 ∧ i ≤ v.length ∧ u.length = u1.length ∧ (∀ k, j ≤ k → k < j + i → 0 ≤ rd u k ∧ rd u k < B) ∧ (∀ k, k < j ∨ j + i ≤ k → rd u k = rd u1 k) ∧ val B u + cy * B ^ (j + i) = val B u1 + B ^ j * val B (v.take i)

theorem BKInv.zero (B : Int) (v : List Int) (j : Nat) (u1 : List Int) : BKInv B v j u1 0 0 u1 := ⟨by omega, by omega, by omega, rfl, fun k h1 h2 => by omega, fun _ _ => rfl, by simp⟩

theorem BKInv.step {B : Int} (hB : 1 < B) {v : List Int} {j : Nat} {u1 : List Int} {i : Nat} {cy : Int} {u : List Int} (h : BKInv B v j u1 i cy u) (hi : i < v.length) (hj : j + i < u1.length) (a1 : 0 ≤ rd u (j + i) ∧ rd u (j + i) < B) (a2 : 0 ≤ rd v i ∧ rd v i < B)
    {s : Int} (hs : s = cy + (rd u (j + i) + rd v i)) : BKInv B v j u1 (i + 1) (s / B) (u.set (j + i) (s % B)) := by
  obtain ⟨h0, h1, h2, h3, h4, h5, h6⟩ := h
  have m0 := Int.emod_nonneg s (by omega : B ≠ 0)
  have m1 := Int.emod_lt_of_pos s (by omega : 0 < B)
  have d0 : 0 ≤ s / B := Int.ediv_nonneg (by omega) (by omega)
  have d1 : s / B < 2 := Int.ediv_lt_of_lt_mul (by omega) (by omega)
  refine ⟨d0, by omega, by omega, by simp [h3], fun k k0 k1 => ?_, fun k hk => ?_, ?_⟩
  · by_cases e : j + i = k
    · subst e; rw [rd_set_eq _ _ _ (by omega)]; exact ⟨m0, m1⟩
    · rw [rd_set_ne _ _ _ _ e]; exact h4 k k0 (by omega)
  · rw [rd_set_ne _ _ _ _ (by omega)]; exact h5 k (by omega)
  · rw [val_set _ _ _ _ (by omega), take_more, ← Nat.add_assoc, Int.pow_succ]
    have e : s = B * (s / B) + s % B := (Int.mul_ediv_add_emod s B).symm
    have ep : B ^ (j + i) = B ^ j * B ^ i := Int.pow_add B j i
    generalize s / B = t at *
    generalize s % B = r at *
    generalize B ^ (j + i) = p at *
    generalize B ^ j = pj at *
    generalize B ^ i = pi at *
    generalize val B u = X at *
    generalize val B u1 = Y at *
    generalize val B (v.take i) = Z at *
    generalize rd u (j + i) = a at *
    generalize rd v i = b at *
    have h7 : X = Y + pj * Z - cy * p := by omega
    have h8 : r = cy + (a + b) - B * t := by omega
    subst h7 ep h8
    grind

theorem ABInv.back {B : Int} {v u0 : List Int} {n j : Nat} {g cy : Int} {u1 u : List Int} (W : Win B v u0 n j) (h : ABInv B v u0 n j g u1) (hn : rd u1 (j + n + 2) < 0) (k : BKInv B v j u1 v.length cy u) :
    ABInv B v u0 n j (g - 1) (u.set (j + n + 2) (rd u (j + n + 2) + cy)) := by
  have hd := h.low W hn
  obtain ⟨h1, h2, h3, h4, h5, h6, h7, h8, h9⟩ := h
  obtain ⟨k0, k1, k2, k3, k4, k5, k6⟩ := k
  have hv := W.hv
  have hu := W.hu
  have hB := W.hB
  have e := k5 (j + n + 2) (by omega)
  refine ⟨by omega, by omega, by simp [k3, h3], fun k hk => ?_, fun k hk => ?_, fun k hk => ?_, ?_, ?_, ?_⟩
  · rw [rd_set_ne _ _ _ _ (by omega)]
    by_cases a : j ≤ k ∧ k < j + v.length
    · exact k4 k a.1 a.2
    · rw [k5 k (by omega)]; exact h4 k hk
  · rw [rd_set_ne _ _ _ _ (by omega), k5 k (by omega)]; exact h5 k hk
  · rw [rd_set_ne _ _ _ _ (by omega), k5 k (by omega)]; exact h6 k hk
  · rw [rd_set_eq _ _ _ (by omega)]; omega
  · rw [rd_set_eq _ _ _ (by omega)]; omega
  · rw [val_set _ _ _ _ (by omega), show rd u (j + n + 2) + cy - rd u (j + n + 2) = cy by omega]
    rw [val_take_ge B v v.length (Nat.le_refl _), hv, ← Nat.add_assoc, h9] at k6
    have : (g - 1) * B ^ j * val B v = g * B ^ j * val B v - B ^ j * val B v := by grind
    omega

theorem KInv.step {B : Int} {v u0 u q : List Int} {U g : Int} {L n j : Nat} (K : KInv B v U L (j + 1) u0 q) (W : Win B v u0 n j) (h : ABInv B v u0 n j g u) (hn : 0 ≤ rd u (j + n + 2)) : KInv B v U L j u (q.set j g) := by
  obtain ⟨e, r, hlt⟩ := h.done W hn
  obtain ⟨k1, k2, k3, k4, k5, k6, k7, k8⟩ := K
  have hq : rd q j = 0 := k6 j (by omega)
  have d0 := W.dig0
  refine ⟨by rw [h.2.2.1, k1], by simp [k2], by omega, r, k5.set _ (by omega) h.2.1, fun i hi => ?_, ?_, hlt⟩
  · rw [rd_set_ne _ _ _ _ (by omega)]; exact k6 i (by omega)
  · rw [val_set _ _ _ _ (by omega), hq, h.2.2.2.2.2.2.2.2, ← k7]
    generalize B ^ j = p
    generalize val B v = V
    generalize val B q = Q
    generalize val B u0 = X
    grind

/-- The length and the highest limb, by the number. -/
theorem top_of {B H : Int} (hB : 1 < B) {l : List Int} (r : Rng B l) (t : Top l) {n : Nat} (h0 : B ^ n * H ≤ val B l) (hH : 0 < H) (h1 : val B l < B ^ (n + 1)) : l.length = n + 1 ∧ H ≤ rd l n := by
  have p := pow_pos' (by omega : 0 < B) n
  have hp : B ^ n * 1 ≤ B ^ n * H := Int.mul_le_mul_of_nonneg_left (by omega) (by omega)
  have hl : l.length = n + 1 := by
    rcases Nat.lt_trichotomy l.length (n + 1) with q | q | q
    · have a := val_lt (by omega : 0 < B) r
      have b : B ^ l.length ≤ B ^ n := pow_le_pow (by omega) (by omega)
      omega
    · exact q
    · have a := val_ge hB r t (by intro e; subst e; simp at q)
      have b : B ^ (n + 1) ≤ B ^ (l.length - 1) := pow_le_pow (by omega) (by omega)
      omega
  refine ⟨hl, ?_⟩
  have e := val_split' B l n (by omega)
  rw [drop_more B l n (by omega), List.drop_of_length_le (by omega), val_nil, Int.mul_zero, Int.add_zero] at e
  have a := val_lt (by omega : 0 < B) (r.take n)
  rw [List.length_take, Nat.min_eq_left (by omega)] at a
  have b : B ^ n * H < B ^ n * (rd l n + 1) := by
    have : B ^ n * (rd l n + 1) = B ^ n * rd l n + B ^ n := by grind
    omega
  have := Int.lt_of_mul_lt_mul_left b (by omega)
  omega

theorem val_top (B : Int) (l : List Int) (n : Nat) (h : l.length = n + 1) : val B l = val B (l.take n) + B ^ n * rd l n := by
  have e := val_split' B l n (by omega)
  rwa [drop_more B l n (by omega), List.drop_of_length_le (by omega), val_nil, Int.mul_zero, Int.add_zero] at e

/-- What stands above place k is small, if the number is. -/
theorem drop_lt {B : Int} (hB : 1 < B) {l : List Int} (r : Rng B l) (k : Nat) (hk : k ≤ l.length) {X : Int} (h : val B l < B ^ k * X) : val B (l.drop k) < X := by
  have e := val_split' B l k hk
  have a := val_nonneg (by omega : 0 < B) (r.take k)
  have p := pow_pos' (by omega : 0 < B) k
  exact Int.lt_of_mul_lt_mul_left (by omega : B ^ k * val B (l.drop k) < B ^ k * X) (by omega)

/-- The quotient's places are enough: what stands above them is less than the divisor. -/
theorem first_rest {B H : Int} (hB : 1 < B) (hH : 0 < H) {u v : List Int} {M N : Nat} {P : Int} (ru : Rng B u) (hu : u.length = M + 1) (hv : v.length = N + 2) (hvl : B ^ (N + 1) * H ≤ val B v) (hP : P ≤ H) (hlt : val B u < B ^ M * P)
    (hle : val B v ≤ val B u) : N + 2 ≤ M + 1 ∧ val B (u.drop (u.length - v.length)) < val B v := by
  have p := pow_pos' (by omega : 0 < B) (N + 1)
  have pm := pow_pos' (by omega : 0 < B) M
  have h1 : N + 1 ≤ M := by
    rcases Nat.lt_or_ge M (N + 1) with q | q
    · exfalso
      have a : B ^ M ≤ B ^ N := pow_le_pow (by omega) (by omega)
      have b : B ^ N * 1 ≤ B ^ N * B := Int.mul_le_mul_of_nonneg_left (by omega) (Int.le_of_lt (pow_pos' (by omega) N))
      rw [Int.pow_succ] at hvl p
      have c : B ^ M * P ≤ B ^ M * H := Int.mul_le_mul_of_nonneg_left hP (by omega)
      have d : B ^ M * H ≤ B ^ N * B * H := Int.mul_le_mul_of_nonneg_right (by omega) (by omega)
      omega
    · exact q
  refine ⟨by omega, drop_lt hB ru _ (by omega) (Int.lt_of_lt_of_le hlt ?_)⟩
  rw [hu, hv]
  have e : B ^ M = B ^ (M + 1 - (N + 2)) * B ^ (N + 1) := by rw [← Int.pow_add]; congr 1; omega
  rw [e, Int.mul_assoc]
  refine Int.mul_le_mul_of_nonneg_left (Int.le_trans ?_ hvl) (Int.le_of_lt (pow_pos' (by omega) _))
  exact Int.mul_le_mul_of_nonneg_left hP (by omega)

theorem Win.guess' {B : Int} {v u : List Int} {n j : Nat} (h : Win B v u n j) : dig B v u j ≤ (rd u (j + v.length) * B + rd u (j + v.length - 1)) / rd v (v.length - 1) := by
  have := h.guess
  rw [h.hv, show j + (n + 2) = j + n + 2 by omega, show j + n + 2 - 1 = j + n + 1 by omega, show n + 2 - 1 = n + 1 by omega]; exact this
theorem Win.above' {B : Int} {v u : List Int} {n j : Nat} (h : Win B v u n j) {g : Int} (h0 : 0 ≤ g)
    (ht : (rd u (j + v.length) * B + rd u (j + v.length - 1) - g * rd v (v.length - 1)) * B + rd u (j + v.length - 2) < g * rd v (v.length - 2)) : dig B v u j < g := by
  rw [h.hv, show j + (n + 2) = j + n + 2 by omega, show j + n + 2 - 1 = j + n + 1 by omega, show j + n + 2 - 2 = j + n by omega, show n + 2 - 1 = n + 1 by omega, show n + 2 - 2 = n by omega] at ht
  exact h.above h0 ht
/-- One guess lower, in the test's own words. -/
def GInv (B : Int) (v u : List Int) (j : Nat) (g : Int) : Prop :=
  0 ≤ g ∧ g < B ∧ dig B v u j ≤ g ∧ g * rd v (v.length - 1) ≤ rd u (j + v.length) * B + rd u (j + v.length - 1)
theorem GInv.step {B : Int} {v u : List Int} {n j : Nat} {g : Int} (W : Win B v u n j) (h : GInv B v u j g)
    (ht : (rd u (j + v.length) * B + rd u (j + v.length - 1) - g * rd v (v.length - 1)) * B + rd u (j + v.length - 2) < g * rd v (v.length - 2)) : GInv B v u j (g - 1) := by
  obtain ⟨h0, h1, h2, h3⟩ := h
  have := W.above' h0 ht
  have d0 := W.dig0
  refine ⟨by omega, by omega, by omega, ?_⟩
  have e : (g - 1) * rd v (v.length - 1) = g * rd v (v.length - 1) - rd v (v.length - 1) := by grind
  have := W.rv.all (by have := W.hB; omega) (v.length - 1)
  omega
theorem GInv.zero {B : Int} {v u : List Int} {n j : Nat} {g : Int} (W : Win B v u n j) (hg : g ≤ (rd u (j + v.length) * B + rd u (j + v.length - 1)) / rd v (v.length - 1)) (hb : g ≤ B - 1)
    (he : g = (rd u (j + v.length) * B + rd u (j + v.length - 1)) / rd v (v.length - 1) ∨ g = B - 1) : GInv B v u j g := by
  have hB := W.hB
  have ht : 0 < rd v (v.length - 1) := by rw [W.hv]; exact W.ht
  have d0 := W.dig0
  have d1 := W.dig1
  have hgu := W.guess'
  refine ⟨by omega, by omega, by omega, (Int.le_ediv_iff_mul_le ht).1 hg⟩

theorem SMInv.step' {B : Int} (hB : 1 < B) {v : List Int} {g : Int} {j : Nat} {u0 : List Int} {i : Nat} {cy : Int} {u : List Int} (h : SMInv B v g j u0 i cy u) (hi : i < v.length) (hj : i + j < u0.length)
    {cy' s : Int} (c0 : 0 ≤ cy') (c1 : cy' ≤ B) (s0 : 0 ≤ s) (s1 : s < B) (hs : s = rd u (i + j) - cy - g * rd v i + cy' * B) : SMInv B v g j u0 (i + 1) cy' (u.set (i + j) s) := by
  rw [Nat.add_comm i j] at *; exact h.step hB hi hj c0 c1 s0 s1 hs
theorem BKInv.step' {B : Int} (hB : 1 < B) {v : List Int} {j : Nat} {u1 : List Int} {i : Nat} {cy : Int} {u : List Int} (h : BKInv B v j u1 i cy u) (hi : i < v.length) (hj : i + j < u1.length) (a1 : 0 ≤ rd u (i + j) ∧ rd u (i + j) < B) (a2 : 0 ≤ rd v i ∧ rd v i < B)
    {s : Int} (hs : s = cy + (rd u (i + j) + rd v i)) : BKInv B v j u1 (i + 1) (s / B) (u.set (i + j) (s % B)) := by
  rw [Nat.add_comm i j] at *; exact h.step hB hi hj a1 a2 hs
theorem ABInv.start' {B : Int} {v u0 : List Int} {n j : Nat} {g cy : Int} {u : List Int} (W : Win B v u0 n j) (hd : dig B v u0 j ≤ g) (hg : g < B) (h : SMInv B v g j u0 v.length cy u) :
    ABInv B v u0 n j g (u.set (j + v.length) (rd u (j + v.length) - cy)) := by
  have := ABInv.start W hd hg h
  rwa [show j + v.length = j + n + 2 by rw [W.hv]; omega]
theorem ABInv.back' {B : Int} {v u0 : List Int} {n j : Nat} {g cy : Int} {u1 u : List Int} (W : Win B v u0 n j) (h : ABInv B v u0 n j g u1) (hn : rd u1 (j + v.length) < 0) (k : BKInv B v j u1 v.length cy u) :
    ABInv B v u0 n j (g - 1) (u.set (j + v.length) (rd u (j + v.length) + cy)) := by
  rw [show j + v.length = j + n + 2 by rw [W.hv]; omega] at hn ⊢
  exact ABInv.back W h hn k
theorem KInv.step' {B : Int} {v u0 u q : List Int} {U g : Int} {L n j : Nat} (K : KInv B v U L (j + 1) u0 q) (W : Win B v u0 n j) (h : ABInv B v u0 n j g u) (hn : 0 ≤ rd u (j + v.length)) : KInv B v U L j u (q.set j g) :=
  K.step W h (by rw [show j + v.length = j + n + 2 by rw [W.hv]; omega] at hn; exact hn)
theorem ABInv.at {B : Int} {v u0 : List Int} {n j : Nat} {g : Int} {u : List Int} (W : Win B v u0 n j) (h : ABInv B v u0 n j g u) : -B ≤ rd u (j + v.length) ∧ rd u (j + v.length) < B := by
  rw [show j + v.length = j + n + 2 by rw [W.hv]; omega]; exact ⟨h.2.2.2.2.2.2.1, h.2.2.2.2.2.2.2.1⟩
theorem ABInv.rest {B : Int} {v u0 : List Int} {n j : Nat} {g : Int} {u : List Int} (W : Win B v u0 n j) (h : ABInv B v u0 n j g u) (k : Nat) (hk : k ≠ j + v.length) : 0 ≤ rd u k ∧ rd u k < B :=
  h.2.2.2.1 k (by rw [W.hv] at hk; omega)

end Tt
