/- Plain numbers: lists of limbs, their value in a base, and what division by limbs needs. No Go in sight. -/
namespace Tt
set_option linter.unusedSimpArgs false
set_option linter.unusedVariables false

/-- The limb at a place (0 behind the end). -/
def rd (l : List Int) (i : Nat) : Int := l.getD i 0
theorem rd_def (l : List Int) (i : Nat) : rd l i = l[i]?.getD 0 := by simp [rd]
@[simp] theorem rd_zero (x : Int) (l : List Int) : rd (x :: l) 0 = x := rfl
@[simp] theorem rd_succ (x : Int) (l : List Int) (i : Nat) : rd (x :: l) (i + 1) = rd l i := rfl
@[simp] theorem rd_nil (i : Nat) : rd [] i = 0 := rfl
theorem rd_ge (l : List Int) (i : Nat) (h : l.length ≤ i) : rd l i = 0 := by simp [rd_def, List.getElem?_eq_none h]
theorem rd_lt (l : List Int) (i : Nat) (h : i < l.length) : rd l i = l[i] := by simp [rd_def, h]
theorem rd_set_eq (l : List Int) (i : Nat) (v : Int) (h : i < l.length) : rd (l.set i v) i = v := by simp [rd_def, h]
theorem rd_set_ne (l : List Int) (i j : Nat) (v : Int) (h : i ≠ j) : rd (l.set i v) j = rd l j := by simp [rd_def, List.getElem?_set_ne h]
theorem rd_take (l : List Int) (k i : Nat) (h : i < k) : rd (l.take k) i = rd l i := by simp [rd_def, List.getElem?_take, h]
theorem rd_drop (l : List Int) (k i : Nat) : rd (l.drop k) i = rd l (k + i) := by simp [rd_def]
theorem rd_append_left (l m : List Int) (i : Nat) (h : i < l.length) : rd (l ++ m) i = rd l i := by simp [rd_def, List.getElem?_append_left h]
theorem rd_append_right (l m : List Int) (i : Nat) (h : l.length ≤ i) : rd (l ++ m) i = rd m (i - l.length) := by simp [rd_def, List.getElem?_append_right h]
theorem rd_replicate (n i : Nat) : rd (List.replicate n 0) i = 0 := by
  simp [rd_def, List.getElem?_replicate]; split <;> rfl
theorem ext_rd {l m : List Int} (hl : l.length = m.length) (h : ∀ i, i < l.length → rd l i = rd m i) : l = m := by
  apply List.ext_getElem hl
  intro i h1 h2
  have := h i h1
  rwa [rd_lt _ _ h1, rd_lt _ _ h2] at this

/-- What a list of limbs is worth, the lowest first. -/
def val (B : Int) : List Int → Int
  | [] => 0
  | x :: xs => x + B * val B xs

@[simp] theorem val_nil (B : Int) : val B [] = 0 := rfl
@[simp] theorem val_cons (B : Int) (x : Int) (xs : List Int) : val B (x :: xs) = x + B * val B xs := rfl

theorem val_append (B : Int) (l m : List Int) : val B (l ++ m) = val B l + B ^ l.length * val B m := by
  induction l with
  | nil => simp
  | cons x xs ih => simp only [List.cons_append, val_cons, ih, List.length_cons, Int.pow_succ]; grind

theorem val_set (B : Int) (l : List Int) (i : Nat) (v : Int) (h : i < l.length) : val B (l.set i v) = val B l + (v - rd l i) * B ^ i := by
  induction l generalizing i with
  | nil => simp at h
  | cons x xs ih =>
    cases i with
    | zero => simp; grind
    | succ i =>
      have := ih i (by simpa using h)
      simp only [List.set_cons_succ, val_cons, this, rd_succ, Int.pow_succ]; grind

theorem val_take_succ (B : Int) (l : List Int) (k : Nat) (h : k < l.length) : val B (l.take (k + 1)) = val B (l.take k) + rd l k * B ^ k := by
  rw [List.take_succ_eq_append_getElem h, val_append]
  have : (l.take k).length = k := by simp; omega
  rw [this]; simp [h]; rw [rd_lt _ _ h, Int.mul_comm]

theorem val_take_ge (B : Int) (l : List Int) (k : Nat) (h : l.length ≤ k) : val B (l.take k) = val B l := by
  rw [List.take_of_length_le h]

theorem val_replicate (B : Int) (n : Nat) : val B (List.replicate n 0) = 0 := by
  induction n with
  | zero => rfl
  | succ n ih => simp [List.replicate_succ, ih]

/-- Every limb lies in its range. -/
def Rng (B : Int) (l : List Int) : Prop := ∀ i, i < l.length → 0 ≤ rd l i ∧ rd l i < B

theorem Rng.nil (B : Int) : Rng B [] := fun i h => by simp at h
theorem Rng.head {B x : Int} {xs : List Int} (h : Rng B (x :: xs)) : 0 ≤ x ∧ x < B := by simpa using h 0 (by simp)
theorem Rng.tail {B x : Int} {xs : List Int} (h : Rng B (x :: xs)) : Rng B xs := fun i hi => by simpa using h (i + 1) (by simpa using hi)
theorem Rng.cons {B x : Int} {xs : List Int} (h0 : 0 ≤ x) (h1 : x < B) (h : Rng B xs) : Rng B (x :: xs) := by
  intro i hi
  cases i with
  | zero => exact ⟨by simpa using h0, by simpa using h1⟩
  | succ i => simpa using h i (by simpa using hi)
theorem Rng.all {B : Int} {l : List Int} (hB : 0 < B) (h : Rng B l) (i : Nat) : 0 ≤ rd l i ∧ rd l i < B := by
  by_cases hi : i < l.length
  · exact h i hi
  · rw [rd_ge _ _ (by omega)]; omega
theorem Rng.take {B : Int} {l : List Int} (h : Rng B l) (k : Nat) : Rng B (l.take k) := by
  intro i hi
  have h1 : i < l.length := by simp at hi; omega
  have h2 : i < k := by simp at hi; omega
  have := h i h1
  simpa [rd_def, List.getElem?_take, h2] using this
theorem Rng.drop {B : Int} {l : List Int} (h : Rng B l) (k : Nat) : Rng B (l.drop k) := by
  intro i hi
  have h1 : k + i < l.length := by simp at hi; omega
  simpa [rd_def] using h (k + i) h1
theorem Rng.set {B : Int} {l : List Int} (h : Rng B l) (i : Nat) {v : Int} (h0 : 0 ≤ v) (h1 : v < B) : Rng B (l.set i v) := by
  intro j hj
  have hj' : j < l.length := by simpa using hj
  by_cases e : i = j
  · subst e; simp [rd_def, hj']; omega
  · have := h j hj'; simpa [rd_def, List.getElem?_set_ne e] using this
theorem Rng.append {B : Int} {l m : List Int} (h : Rng B l) (k : Rng B m) : Rng B (l ++ m) := by
  intro i hi
  by_cases hl : i < l.length
  · have := h i hl; simpa [rd_def, List.getElem?_append_left hl] using this
  · have := k (i - l.length) (by simp at hi; omega)
    simpa [rd_def, List.getElem?_append_right (Nat.le_of_not_lt hl)] using this
theorem Rng.replicate {B : Int} (hB : 0 < B) (n : Nat) : Rng B (List.replicate n 0) := by
  intro i hi
  have : i < n := by simpa using hi
  simp [rd_def, List.getElem?_replicate, this]; omega

theorem val_nonneg {B : Int} (hB : 0 < B) {l : List Int} (h : Rng B l) : 0 ≤ val B l := by
  induction l with
  | nil => simp
  | cons x xs ih =>
    have h1 := h.head; have h2 := ih h.tail
    have := Int.mul_nonneg (Int.le_of_lt hB) h2
    simp only [val_cons]; omega

theorem val_lt {B : Int} (hB : 0 < B) {l : List Int} (h : Rng B l) : val B l < B ^ l.length := by
  induction l with
  | nil => simp
  | cons x xs ih =>
    have h1 := h.head; have h2 := ih h.tail
    have h3 : B * (val B xs + 1) ≤ B * B ^ xs.length := Int.mul_le_mul_of_nonneg_left (by omega) (Int.le_of_lt hB)
    simp only [val_cons, List.length_cons, Int.pow_succ]
    have h4 : B ^ xs.length * B = B * B ^ xs.length := Int.mul_comm _ _
    have h5 : B * (val B xs + 1) = B * val B xs + B := by grind
    omega

/-- The highest limb is not nought. -/
def Top (l : List Int) : Prop := l ≠ [] → rd l (l.length - 1) ≠ 0

theorem Top.nil : Top [] := fun h => absurd rfl h
theorem Top.tail {x : Int} {xs : List Int} (h : Top (x :: xs)) : Top xs := by
  intro hne
  have := h (by simp)
  cases xs with
  | nil => exact absurd rfl hne
  | cons y ys => simpa using this

theorem pow_pos' {B : Int} (hB : 0 < B) (n : Nat) : 0 < B ^ n := by
  induction n with
  | zero => simp
  | succ n ih => rw [Int.pow_succ]; exact Int.mul_pos ih hB

theorem val_ge {B : Int} (hB : 1 < B) {l : List Int} (h : Rng B l) (ht : Top l) (hne : l ≠ []) : B ^ (l.length - 1) ≤ val B l := by
  induction l with
  | nil => exact absurd rfl hne
  | cons x xs ih =>
    have h1 := h.head
    cases xs with
    | nil =>
      have := ht (by simp)
      simp at this
      simp; omega
    | cons y ys =>
      have h2 := ih h.tail ht.tail (by simp)
      simp only [val_cons, List.length_cons, Nat.add_sub_cancel] at *
      have h3 : B * B ^ ys.length ≤ B * (y + B * val B ys) := Int.mul_le_mul_of_nonneg_left h2 (by omega)
      rw [Int.pow_succ, Int.mul_comm]
      omega

theorem val_pos {B : Int} (hB : 1 < B) {l : List Int} (h : Rng B l) (ht : Top l) (hne : l ≠ []) : 0 < val B l :=
  Int.lt_of_lt_of_le (pow_pos' (by omega) _) (val_ge hB h ht hne)

theorem val_eq_zero {B : Int} (hB : 1 < B) {l : List Int} (h : Rng B l) (ht : Top l) : val B l = 0 ↔ l = [] := by
  constructor
  · intro e
    by_cases hne : l = []
    · exact hne
    · have := val_pos hB h ht hne; omega
  · intro e; subst e; rfl

/-- A number has one list of limbs. -/
theorem val_inj {B : Int} (hB : 1 < B) {l m : List Int} (hl : Rng B l) (hm : Rng B m) (tl : Top l) (tm : Top m) (e : val B l = val B m) : l = m := by
  induction l generalizing m with
  | nil => exact ((val_eq_zero hB hm tm).1 e.symm).symm
  | cons x xs ih =>
    cases m with
    | nil => exact (val_eq_zero hB hl tl).1 e
    | cons y ys =>
      have h1 := hl.head; have h2 := hm.head
      simp only [val_cons] at e
      have hxy : x = y := by
        have e1 : (x + B * val B xs) % B = x := by rw [Int.add_mul_emod_self_left]; exact Int.emod_eq_of_lt h1.1 h1.2
        have e2 : (y + B * val B ys) % B = y := by rw [Int.add_mul_emod_self_left]; exact Int.emod_eq_of_lt h2.1 h2.2
        rw [e] at e1; omega
      subst hxy
      have : val B xs = val B ys := Int.eq_of_mul_eq_mul_left (by omega : B ≠ 0) (by omega)
      rw [ih hl.tail hm.tail tl.tail tm.tail this]

theorem pow_le_pow {B : Int} (hB : 1 ≤ B) {m n : Nat} (h : m ≤ n) : B ^ m ≤ B ^ n := by
  obtain ⟨d, rfl⟩ := Nat.le.dest h
  clear h
  induction d with
  | zero => simp
  | succ d ih =>
    have h1 := pow_pos' (by omega : 0 < B) (m + d)
    have h2 : B ^ (m + d) * 1 ≤ B ^ (m + d) * B := Int.mul_le_mul_of_nonneg_left hB (by omega)
    rw [← Nat.add_assoc, Int.pow_succ]
    omega

/-- The longer list is worth more. -/
theorem val_lt_of_length {B : Int} (hB : 1 < B) {l m : List Int} (hl : Rng B l) (hm : Rng B m) (tm : Top m) (h : l.length < m.length) : val B l < val B m := by
  have h1 := val_lt (by omega) hl
  have h2 := val_ge hB hm tm (by intro e; subst e; simp at h)
  have h3 : B ^ l.length ≤ B ^ (m.length - 1) := pow_le_pow (by omega) (by omega)
  omega

/-- Of lists of one length whose limbs agree from k on, k's limb decides. -/
theorem val_lt_of_top {B : Int} (hB : 1 < B) {l m : List Int} (hl : Rng B l) (hm : Rng B m) (e : l.length = m.length) (k : Nat) (hk : k < l.length)
    (hs : ∀ i, k < i → rd l i = rd m i) (h : rd l k < rd m k) : val B l < val B m := by
  induction l generalizing m k with
  | nil => simp at hk
  | cons x xs ih =>
    cases m with
    | nil => simp at e
    | cons y ys =>
      have h1 := hl.head; have h2 := hm.head
      cases k with
      | zero =>
        have hxy : xs = ys := by
          apply List.ext_getElem? ; intro i
          have h3 := hs (i + 1) (by omega)
          simp only [rd_succ] at h3
          by_cases hi : i < xs.length
          · have hi' : i < ys.length := by simp at e; omega
            simp [rd_def, hi, hi'] at h3
            simp [hi, hi', h3]
          · have hi' : ¬ i < ys.length := by simp at e; omega
            rw [List.getElem?_eq_none (by omega), List.getElem?_eq_none (by omega)]
        subst hxy
        simp at h
        simp only [val_cons]; omega
      | succ k =>
        have h3 := ih hl.tail hm.tail (by simpa using e) k (by simpa using hk) (fun i hi => by simpa using hs (i + 1) (by omega)) (by simpa using h)
        have h4 : B * (val B xs + 1) ≤ B * val B ys := Int.mul_le_mul_of_nonneg_left (by omega) (by omega)
        have h5 : B * (val B xs + 1) = B * val B xs + B := by grind
        simp only [val_cons]; omega

/-- The list without the noughts at its high end. -/
def strip (l : List Int) (k : Nat) : List Int := l.take k

/-- From k on there is nothing but noughts. -/
def Zs (l : List Int) (k : Nat) : Prop := ∀ i, k ≤ i → rd l i = 0

theorem Zs.len (l : List Int) : Zs l l.length := fun i hi => rd_ge _ _ hi
theorem Zs.step {l : List Int} {k : Nat} (h : Zs l (k + 1)) (h0 : rd l k = 0) : Zs l k := fun i hi => by
  by_cases e : i = k
  · subst e; exact h0
  · exact h i (by omega)
theorem Zs.step' {l : List Int} {n : Nat} (h : Zs l n) (h0 : 0 < n) (hx : rd l (n - 1) = 0) : Zs l (n - 1) := Zs.step (k := n - 1) (by rw [Nat.sub_add_cancel h0]; exact h) hx
theorem Zs.mono {l : List Int} {k m : Nat} (h : Zs l k) (hm : k ≤ m) : Zs l m := fun i hi => h i (by omega)
theorem Zs.set {l : List Int} {k : Nat} (h : Zs l k) (v : Int) : Zs (l.set k v) (k + 1) := fun i hi => by
  have := h i (by omega)
  simpa [rd_def, List.getElem?_set_ne (by omega : k ≠ i)] using this
theorem Zs.set' {l : List Int} {k : Nat} (h : Zs l k) (m : Nat) (v : Int) : Zs (l.set m v) (max k (m + 1)) := fun i hi => by
  rw [rd_set_ne _ _ _ _ (by omega)]; exact h i (by omega)
theorem Zs.replicate (n : Nat) (k : Nat) : Zs (List.replicate n 0) k := fun i _ => by
  simp [rd_def, List.getElem?_replicate]; split <;> rfl

theorem val_take_zs (B : Int) {l : List Int} {k : Nat} (h : Zs l k) : val B (l.take k) = val B l := by
  have e : l = l.take k ++ l.drop k := (List.take_append_drop k l).symm
  have hz : l.drop k = List.replicate (l.drop k).length 0 := by
    apply List.ext_getElem? ; intro i
    by_cases hi : i < (l.drop k).length
    · have := h (k + i) (by omega)
      have hk : k + i < l.length := by simp at hi; omega
      have hi2 : i < l.length - k := by simpa using hi
      simp [rd_def, hk] at this
      simp [List.getElem?_replicate, hi2, hk, this]
    · rw [List.getElem?_eq_none (by omega), List.getElem?_eq_none (by simp at *; omega)]
  calc val B (l.take k) = val B (l.take k) + B ^ (l.take k).length * val B (List.replicate (l.drop k).length 0) := by rw [val_replicate]; simp
    _ = val B (l.take k ++ List.replicate (l.drop k).length 0) := (val_append _ _ _).symm
    _ = val B l := by rw [← hz, List.take_append_drop]

theorem top_take {l : List Int} {k : Nat} (hk : k ≤ l.length) (h : k = 0 ∨ rd l (k - 1) ≠ 0) : Top (l.take k) := by
  intro hne
  have hk0 : k ≠ 0 := by intro e; subst e; simp at hne
  have := h.resolve_left hk0
  have hk1 : k - 1 < l.length := by omega
  simp only [List.length_take, Nat.min_eq_left hk]
  rw [rd_def, List.getElem?_take, if_pos (by omega), ← rd_def]
  exact this

/-! ### bits -/
/-- How many bits a number has. -/
def bl (n : Nat) : Nat := if n = 0 then 0 else Nat.log2 n + 1
theorem bl_le {n b : Nat} : bl n ≤ b ↔ n < 2 ^ b := by
  unfold bl
  split
  · subst_vars; simp [Nat.two_pow_pos]
  · rename_i h; rw [Nat.add_one_le_iff, Nat.log2_lt h]
theorem lt_bl (n : Nat) : n < 2 ^ bl n := bl_le.1 (Nat.le_refl _)
theorem bl_mono {n m : Nat} (h : n ≤ m) : bl n ≤ bl m := bl_le.2 (Nat.lt_of_le_of_lt h (lt_bl m))
theorem bl_mul (n m : Nat) : bl (n * m) ≤ bl n + bl m := by
  rw [bl_le, Nat.pow_add]
  exact Nat.mul_lt_mul'' (lt_bl n) (lt_bl m)
theorem bl_add (n m : Nat) : bl (n + m) ≤ bl n + bl m + 1 := by
  rw [bl_le]
  have h1 := lt_bl n; have h2 := lt_bl m
  have h3 : 2 ^ bl n ≤ 2 ^ (bl n + bl m) := Nat.pow_le_pow_right (by omega) (by omega)
  have h4 : 2 ^ bl m ≤ 2 ^ (bl n + bl m) := Nat.pow_le_pow_right (by omega) (by omega)
  rw [Nat.pow_succ]; omega
theorem bl_zero : bl 0 = 0 := rfl
theorem bl_pos {n : Nat} (h : 0 < n) : 0 < bl n := by unfold bl; split <;> omega

theorem natpow_cast (b n : Nat) : ((b ^ n : Nat) : Int) = (b : Int) ^ n := by simp

/-- How long a list of limbs is, by the bits of its number (limbs of e bits). -/
theorem length_le_bl {e : Nat} (he : 0 < e) {l : List Int} (h : Rng ((2 ^ e : Nat) : Int) l) (ht : Top l) {n : Nat} (hv : val ((2 ^ e : Nat) : Int) l = n) : l.length ≤ bl n := by
  by_cases hne : l = []
  · subst hne; simp
  · have hB : (1 : Int) < ((2 ^ e : Nat) : Int) := by
      have : 2 ^ 1 ≤ 2 ^ e := Nat.pow_le_pow_right (by omega) he
      omega
    have h1 := val_ge hB h ht hne
    rw [hv, ← natpow_cast, ← Nat.pow_mul] at h1
    have h2 : 2 ^ (e * (l.length - 1)) ≤ n := by omega
    have h3 := lt_bl n
    have h4 : 2 ^ (e * (l.length - 1)) < 2 ^ bl n := Nat.lt_of_le_of_lt h2 h3
    have h5 := (Nat.pow_lt_pow_iff_right (by omega : 1 < 2)).1 h4
    have h6 : 1 * (l.length - 1) ≤ e * (l.length - 1) := Nat.mul_le_mul_right _ he
    have h7 : 0 < l.length := List.length_pos_iff.2 hne
    omega

/-! ### loops over limbs, in base B -/
theorem take_more (B : Int) (l : List Int) (k : Nat) : val B (l.take (k + 1)) = val B (l.take k) + rd l k * B ^ k := by
  by_cases h : k < l.length
  · exact val_take_succ _ _ _ h
  · rw [val_take_ge _ _ _ (by omega), val_take_ge _ _ _ (by omega), rd_ge _ _ (by omega)]; simp

theorem drop_more (B : Int) (l : List Int) (k : Nat) (h : k < l.length) : val B (l.drop k) = rd l k + B * val B (l.drop (k + 1)) := by
  rw [List.drop_eq_getElem_cons h, val_cons, rd_lt _ _ h]

/-- Sums: after k limbs, with what is carried. -/
def AddInv (B : Int) (l1 l2 : List Int) (N k : Nat) (cy : Int) (l : List Int) : Prop :=
  0 ≤ cy ∧ cy ≤ 1 ∧ k ≤ N ∧ l.length = N ∧ Rng B l ∧ Zs l k ∧ val B l + cy * B ^ k = val B (l1.take k) + val B (l2.take k)

theorem AddInv.zero {B : Int} (hB : 1 < B) (l1 l2 : List Int) (N : Nat) : AddInv B l1 l2 N 0 0 (List.replicate N 0) :=
  ⟨by omega, by omega, by omega, by simp, Rng.replicate (by omega) _, Zs.replicate _ _, by simp [val_replicate]⟩

theorem AddInv.step {B : Int} (hB : 1 < B) {l1 l2 : List Int} {N k : Nat} {cy : Int} {l : List Int} (h : AddInv B l1 l2 N k cy l) (hk : k < N) (r1 : Rng B l1) (r2 : Rng B l2) {s : Int} (hs : s = cy + rd l1 k + rd l2 k) :
    AddInv B l1 l2 N (k + 1) (s / B) (l.set k (s % B)) := by
  obtain ⟨h0, h1, h2, h3, h4, h5, h6⟩ := h
  have a1 := r1.all (by omega) k
  have a2 := r2.all (by omega) k
  have m0 := Int.emod_nonneg s (by omega : B ≠ 0)
  have m1 := Int.emod_lt_of_pos s (by omega : 0 < B)
  have d0 : 0 ≤ s / B := Int.ediv_nonneg (by omega) (by omega)
  have d1 : s / B < 2 := Int.ediv_lt_of_lt_mul (by omega) (by omega)
  refine ⟨d0, by omega, by omega, by simp [h3], h4.set k m0 m1, h5.set _, ?_⟩
  rw [val_set _ _ _ _ (by omega), h5 k (Nat.le_refl _), take_more, take_more, Int.pow_succ]
  have e : s = B * (s / B) + s % B := (Int.mul_ediv_add_emod s B).symm
  generalize s / B = q at *
  generalize s % B = r at *
  generalize B ^ k = p at *
  grind

theorem AddInv.fin {B : Int} (hB : 1 < B) {l1 l2 : List Int} {N : Nat} {cy : Int} {l : List Int} (h : AddInv B l1 l2 N N cy l) (n1 : l1.length < N) (n2 : l2.length < N) (r1 : Rng B l1) (r2 : Rng B l2) :
    val B l = val B l1 + val B l2 := by
  obtain ⟨h0, h1, h2, h3, h4, h5, h6⟩ := h
  rw [val_take_ge _ _ _ (by omega), val_take_ge _ _ _ (by omega)] at h6
  have b1 := val_lt (by omega) r1
  have b2 := val_lt (by omega) r2
  have p1 : B ^ l1.length ≤ B ^ (N - 1) := pow_le_pow (by omega) (by omega)
  have p2 : B ^ l2.length ≤ B ^ (N - 1) := pow_le_pow (by omega) (by omega)
  have p3 : B ^ N = B ^ (N - 1) * B := by rw [← Int.pow_succ]; congr 1; omega
  have p4 := pow_pos' (show (0 : Int) < B by omega) (N - 1)
  have p5 : B ^ (N - 1) * 2 ≤ B ^ (N - 1) * B := Int.mul_le_mul_of_nonneg_left (by omega) (by omega)
  have b3 := val_nonneg (by omega) h4
  have : cy = 0 := by
    have h7 : cy = 0 ∨ cy = 1 := by omega
    rcases h7 with h7 | h7
    · exact h7
    · subst h7; rw [p3] at h6; omega
  subst this
  omega

/-- Differences: after k limbs, with what is borrowed. -/
def SubInv (B : Int) (l1 l2 : List Int) (k : Nat) (bw : Int) (l : List Int) : Prop :=
  0 ≤ bw ∧ bw ≤ 1 ∧ k ≤ l1.length ∧ l.length = l1.length ∧ Rng B l ∧ Zs l k ∧ val B l - bw * B ^ k = val B (l1.take k) - val B (l2.take k)

theorem SubInv.zero {B : Int} (hB : 1 < B) (l1 l2 : List Int) : SubInv B l1 l2 0 0 (List.replicate l1.length 0) :=
  ⟨by omega, by omega, by omega, by simp, Rng.replicate (by omega) _, Zs.replicate _ _, by simp [val_replicate]⟩

theorem SubInv.step {B : Int} (hB : 1 < B) {l1 l2 : List Int} {k : Nat} {bw : Int} {l : List Int} (h : SubInv B l1 l2 k bw l) (hk : k < l1.length) {s bw' : Int} (hb : bw' = 0 ∨ bw' = 1) (h0 : 0 ≤ s) (h1 : s < B)
    (hs : s = rd l1 k - bw - rd l2 k + bw' * B) : SubInv B l1 l2 (k + 1) bw' (l.set k s) := by
  obtain ⟨b0, b1, h2, h3, h4, h5, h6⟩ := h
  refine ⟨by omega, by omega, by omega, by simp [h3], h4.set k h0 h1, h5.set _, ?_⟩
  rw [val_set _ _ _ _ (by omega), h5 k (Nat.le_refl _), take_more, take_more, Int.pow_succ]
  generalize B ^ k = p at *
  grind

theorem SubInv.fin {B : Int} (hB : 1 < B) {l1 l2 : List Int} {bw : Int} {l : List Int} (h : SubInv B l1 l2 l1.length bw l) (n2 : l2.length ≤ l1.length) (hle : val B l2 ≤ val B l1) :
    val B l = val B l1 - val B l2 := by
  obtain ⟨h0, h1, h2, h3, h4, h5, h6⟩ := h
  rw [val_take_ge _ _ _ (by omega), val_take_ge _ _ _ (by omega)] at h6
  have b1 := val_lt (by omega) h4
  rw [h3] at b1
  have h7 : bw = 0 ∨ bw = 1 := by omega
  rcases h7 with h7 | h7
  · subst h7; omega
  · subst h7; omega

/-- Division by one limb d: from the top down to k. -/
def SmallInv (B d : Int) (l1 : List Int) (k : Nat) (r : Int) (l : List Int) : Prop :=
  0 ≤ r ∧ r < d ∧ k ≤ l1.length ∧ l.length = l1.length ∧ Rng B l ∧ val B (l1.drop k) = d * val B (l.drop k) + r

theorem SmallInv.zero {B d : Int} (hB : 1 < B) (hd : 0 < d) (l1 : List Int) : SmallInv B d l1 l1.length 0 (List.replicate l1.length 0) :=
  ⟨by omega, hd, Nat.le_refl _, by simp, Rng.replicate (by omega) _, by simp⟩

theorem SmallInv.zero' {B d : Int} (hd : 0 < d) {l1 l : List Int} (hl : l.length = l1.length) (r : Rng B l) : SmallInv B d l1 l1.length 0 l :=
  ⟨by omega, hd, Nat.le_refl _, hl, r, by rw [List.drop_of_length_le (Nat.le_refl _), List.drop_of_length_le (by omega)]; simp⟩

theorem SmallInv.step {B d : Int} (hB : 1 < B) (hd : 0 < d) {l1 : List Int} {k : Nat} {r : Int} {l : List Int} (h : SmallInv B d l1 (k + 1) r l) (r1 : Rng B l1) {s : Int} (hs : s = r * B + rd l1 k) :
    SmallInv B d l1 k (s % d) (l.set k (s / d)) := by
  obtain ⟨h0, h1, h2, h3, h4, h5⟩ := h
  have a1 := r1.all (by omega) k
  have m0 := Int.emod_nonneg s (by omega : d ≠ 0)
  have m1 := Int.emod_lt_of_pos s hd
  have hrB : 0 ≤ r * B := Int.mul_nonneg h0 (by omega)
  have hdB : (r + 1) * B ≤ d * B := Int.mul_le_mul_of_nonneg_right (by omega) (by omega)
  have e1 : (r + 1) * B = r * B + B := by grind
  have q0 : 0 ≤ s / d := Int.ediv_nonneg (by omega) (by omega)
  have q1 : s / d < B := Int.ediv_lt_of_lt_mul hd (by rw [Int.mul_comm]; omega)
  refine ⟨m0, m1, by omega, by simp [h3], h4.set k q0 q1, ?_⟩
  rw [drop_more _ _ _ (by omega), drop_more B (l.set k _) k (by simp; omega), rd_set_eq _ _ _ (by omega), List.drop_set_of_lt (by omega), h5]
  have e : s = d * (s / d) + s % d := (Int.mul_ediv_add_emod s d).symm
  generalize s / d = q at *
  generalize s % d = r' at *
  grind

theorem SmallInv.fin {B d : Int} {l1 : List Int} {r : Int} {l : List Int} (h : SmallInv B d l1 0 r l) : val B l1 = d * val B l + r := by simpa using h.2.2.2.2.2

/-- Products: the limbs of a below i, and a's limb i with the limbs of b below k. -/
def MulInv (B : Int) (l1 l2 : List Int) (i k : Nat) (cy : Int) (l : List Int) : Prop :=
  0 ≤ cy ∧ cy < B ∧ i ≤ l1.length ∧ k ≤ l2.length ∧ l.length = l1.length + l2.length ∧ Rng B l ∧ Zs l (i + l2.length) ∧
    val B l + cy * B ^ (i + k) = val B (l1.take i) * val B l2 + rd l1 i * B ^ i * val B (l2.take k)

theorem MulInv.zero {B : Int} (hB : 1 < B) (l1 l2 : List Int) : MulInv B l1 l2 0 0 0 (List.replicate (l1.length + l2.length) 0) :=
  ⟨by omega, by omega, by omega, by omega, by simp, Rng.replicate (by omega) _, Zs.replicate _ _, by simp [val_replicate]⟩

theorem mul_limbs {B x y : Int} (hB : 1 < B) (hx : 0 ≤ x ∧ x < B) (hy : 0 ≤ y ∧ y < B) : 0 ≤ x * y ∧ x * y ≤ (B - 1) * (B - 1) :=
  ⟨Int.mul_nonneg hx.1 hy.1, Int.mul_le_mul (by omega) (by omega) hy.1 (by omega)⟩

theorem MulInv.step {B : Int} (hB : 1 < B) {l1 l2 : List Int} {i k : Nat} {cy : Int} {l : List Int} (h : MulInv B l1 l2 i k cy l) (hi : i < l1.length) (hk : k < l2.length) (r1 : Rng B l1) (r2 : Rng B l2) {s : Int}
    (hs : s = cy + (rd l (i + k) + rd l1 i * rd l2 k)) : MulInv B l1 l2 i (k + 1) (s / B) (l.set (i + k) (s % B)) := by
  obtain ⟨h0, h1, h2, h3, h4, h5, h6, h7⟩ := h
  have a1 := r1.all (by omega) i
  have a2 := r2.all (by omega) k
  have a3 := h5.all (by omega) (i + k)
  have m := mul_limbs hB a1 a2
  have m0 := Int.emod_nonneg s (by omega : B ≠ 0)
  have m1 := Int.emod_lt_of_pos s (by omega : 0 < B)
  have d0 : 0 ≤ s / B := Int.ediv_nonneg (by omega) (by omega)
  have eB : (B - 1) * (B - 1) = B * B - 2 * B + 1 := by grind
  have d1 : s / B < B := Int.ediv_lt_of_lt_mul (by omega) (by omega)
  refine ⟨d0, d1, h2, by omega, by simp [h4], h5.set _ m0 m1, fun j hj => ?_, ?_⟩
  · rw [rd_set_ne _ _ _ _ (by omega)]; exact h6 j hj
  · rw [val_set _ _ _ _ (by omega), take_more, ← Nat.add_assoc, Int.pow_succ]
    have e : s = B * (s / B) + s % B := (Int.mul_ediv_add_emod s B).symm
    have ep : B ^ (i + k) = B ^ i * B ^ k := Int.pow_add B i k
    generalize s / B = q at *
    generalize s % B = r at *
    generalize B ^ (i + k) = p at *
    generalize B ^ i = p1 at *
    generalize B ^ k = p2 at *
    subst ep
    grind

theorem MulInv.next {B : Int} (hB : 1 < B) {l1 l2 : List Int} {i : Nat} {cy : Int} {l : List Int} (h : MulInv B l1 l2 i l2.length cy l) (hi : i < l1.length) {s : Int} (hs : s = rd l (i + l2.length) + cy) :
    MulInv B l1 l2 (i + 1) 0 0 (l.set (i + l2.length) s) := by
  obtain ⟨h0, h1, h2, h3, h4, h5, h6, h7⟩ := h
  have hz := h6 (i + l2.length) (Nat.le_refl _)
  have hs' : s = cy := by omega
  subst hs'
  refine ⟨by omega, by omega, by omega, by omega, by simp [h4], h5.set _ (by omega) (by omega), fun j hj => ?_, ?_⟩
  · rw [rd_set_ne _ _ _ _ (by omega)]; exact h6 j (by omega)
  · rw [val_set _ _ _ _ (by omega), hz, take_more]
    rw [val_take_ge B l2 l2.length (Nat.le_refl _)] at h7
    simp only [List.take_zero, val_nil, Int.sub_zero, Int.zero_mul, Int.add_zero, Int.mul_zero]
    rw [h7, Int.add_mul]

theorem MulInv.fin {B : Int} {l1 l2 : List Int} {l : List Int} (h : MulInv B l1 l2 l1.length 0 0 l) : val B l = val B l1 * val B l2 := by
  obtain ⟨h0, h1, h2, h3, h4, h5, h6, h7⟩ := h
  rw [val_take_ge _ _ _ (by omega)] at h7
  simpa using h7

/-- A number taken apart limb by limb (limbs of 30 bits, at most 64 bits). -/
def OfInv (x0 x : Int) (xs : List Int) : Prop :=
  (0 ≤ x ∧ x ≤ x0) ∧ Rng 1073741824 xs ∧ x0 = val 1073741824 xs + 1073741824 ^ xs.length * x ∧ (x = 0 → Top xs) ∧
    ((xs.length = 0 ∧ x < 18446744073709551616) ∨ (xs.length = 1 ∧ x < 17179869184) ∨ (xs.length = 2 ∧ x < 16) ∨ (xs.length = 3 ∧ x = 0))

theorem OfInv.zero {x : Int} (h0 : 0 ≤ x) (h1 : x < 18446744073709551616) : OfInv x x [] := ⟨⟨h0, Int.le_refl _⟩, Rng.nil _, by simp, fun _ => Top.nil, .inl ⟨rfl, h1⟩⟩
theorem OfInv.len {x0 x : Int} {xs : List Int} (h : OfInv x0 x xs) : xs.length ≤ 3 := by rcases h.2.2.2.2 with h | h | h | h <;> omega
theorem Top.snoc {xs : List Int} {x : Int} (h : x ≠ 0) : Top (xs ++ [x]) := by
  intro _
  rw [rd_append_right _ _ _ (by simp)]
  simpa using h
theorem OfInv.step {x0 x : Int} {xs : List Int} (h : OfInv x0 x xs) (hp : 0 < x) : OfInv x0 (x / 1073741824) (xs ++ [x % 1073741824]) := by
  obtain ⟨h0, h1, h2, h3, h4⟩ := h
  refine ⟨⟨by omega, by omega⟩, h1.append (Rng.cons (by omega) (by omega) (Rng.nil _)), ?_, fun hz => Top.snoc (by omega), ?_⟩
  · rw [val_append, List.length_append, List.length_singleton, Int.pow_succ, h2]
    have e : x = 1073741824 * (x / 1073741824) + x % 1073741824 := by omega
    simp only [val_cons, val_nil]
    generalize x / 1073741824 = q at *
    generalize x % 1073741824 = r at *
    subst e
    generalize (1073741824 : Int) ^ xs.length = p
    generalize val 1073741824 xs = v
    grind
  · simp only [List.length_append, List.length_singleton]
    omega
theorem OfInv.fin {x0 : Int} {xs : List Int} (h : OfInv x0 0 xs) : Rng 1073741824 xs ∧ Top xs ∧ val 1073741824 xs = x0 := ⟨h.2.1, h.2.2.2.1 rfl, by have := h.2.2.1; simpa using this.symm⟩

/-- Shifts upwards: by q limbs and P = 2 to the s. -/
def ShlInv (B P : Int) (q : Nat) (l1 : List Int) (k : Nat) (cy : Int) (l : List Int) : Prop :=
  0 ≤ cy ∧ cy < P ∧ k ≤ l1.length ∧ l.length = l1.length + q + 1 ∧ Rng B l ∧ Zs l (k + q) ∧ val B l + cy * B ^ (k + q) = val B (l1.take k) * P * B ^ q

theorem ShlInv.zero {B P : Int} (hB : 1 < B) (hP : 0 < P) (q : Nat) (l1 : List Int) : ShlInv B P q l1 0 0 (List.replicate (l1.length + q + 1) 0) :=
  ⟨by omega, hP, by omega, by simp, Rng.replicate (by omega) _, Zs.replicate _ _, by simp [val_replicate]⟩

theorem ShlInv.step {B P : Int} (hB : 1 < B) {q : Nat} {l1 : List Int} {k : Nat} {cy : Int} {l : List Int} (h : ShlInv B P q l1 k cy l) (hk : k < l1.length) (r1 : Rng B l1) {s : Int} (hs : s = cy + rd l1 k * P) :
    ShlInv B P q l1 (k + 1) (s / B) (l.set (k + q) (s % B)) := by
  obtain ⟨h0, h1, h2, h3, h4, h5, h6⟩ := h
  have a1 := r1.all (by omega) k
  have m0 := Int.emod_nonneg s (by omega : B ≠ 0)
  have m1 := Int.emod_lt_of_pos s (by omega : 0 < B)
  have p0 : 0 ≤ rd l1 k * P := Int.mul_nonneg a1.1 (by omega)
  have p1 : rd l1 k * P ≤ (B - 1) * P := Int.mul_le_mul_of_nonneg_right (by omega) (by omega)
  have p2 : (B - 1) * P = B * P - P := by grind
  have d0 : 0 ≤ s / B := Int.ediv_nonneg (by omega) (by omega)
  have d1 : s / B < P := Int.ediv_lt_of_lt_mul (by omega) (by rw [Int.mul_comm]; omega)
  refine ⟨d0, d1, by omega, by simp [h3], h4.set _ m0 m1, fun j hj => ?_, ?_⟩
  · rw [rd_set_ne _ _ _ _ (by omega)]; exact h5 j (by omega)
  · rw [val_set _ _ _ _ (by omega), h5 (k + q) (Nat.le_refl _), take_more, show k + 1 + q = (k + q) + 1 by omega, Int.pow_succ]
    have e : s = B * (s / B) + s % B := (Int.mul_ediv_add_emod s B).symm
    have ep : B ^ (k + q) = B ^ k * B ^ q := Int.pow_add B k q
    generalize s / B = t at *
    generalize s % B = r at *
    generalize B ^ (k + q) = p at *
    generalize B ^ k = pk at *
    generalize B ^ q = pq at *
    generalize val B l = V at *
    generalize val B (l1.take k) = W at *
    generalize rd l1 k = a at *
    clear h4 h5 r1 a1 m0 m1 p0 p1 p2 d0 d1
    subst ep
    subst hs
    have h7 : cy * (pk * pq) = W * P * pq - V := by omega
    calc V + (r - 0) * (pk * pq) + t * (pk * pq * B) = V + (B * t + r) * (pk * pq) := by grind
      _ = V + (cy + a * P) * (pk * pq) := by rw [e]
      _ = V + cy * (pk * pq) + a * P * (pk * pq) := by grind
      _ = (W + a * pk) * P * pq := by rw [h7]; grind

theorem ShlInv.fin {B P : Int} (hB : 1 < B) (hPB : P ≤ B) {q : Nat} {l1 : List Int} {cy : Int} {l : List Int} (h : ShlInv B P q l1 l1.length cy l) :
    val B (l.set (l1.length + q) cy) = val B l1 * P * B ^ q ∧ Rng B (l.set (l1.length + q) cy) ∧ l.length = l1.length + q + 1 := by
  obtain ⟨h0, h1, h2, h3, h4, h5, h6⟩ := h
  refine ⟨?_, h4.set _ h0 (by omega), h3⟩
  rw [val_set _ _ _ _ (by omega), h5 _ (Nat.le_refl _), Int.sub_zero, h6, val_take_ge _ _ _ (Nat.le_refl _)]

end Tt
