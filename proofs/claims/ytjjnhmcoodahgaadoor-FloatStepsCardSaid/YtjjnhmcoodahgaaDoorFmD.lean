/- Floats by their bits: what an exact number is rounded to, as the document says: plain. -/
import Derived.Test.YtjjnhmcoodahgaaDoorFmC
namespace Tt
open Go Go.RowKit Go.Proofs
set_option linter.unusedSimpArgs false
set_option linter.unusedVariables false
set_option maxRecDepth 100000

def laidF (neg : Bool) (m : Nat) (e way : Int) : Int × Bool :=
  if 971 < e then (sgW neg (if beyB way neg = true then 9218868437227405311 else 9218868437227405312), true)
  else (sgW neg (if bl m = 53 then (m : Int) - 4503599627370496 + (e + 1075) * 4503599627370496 else m), false)
theorem laidW_F (neg : Bool) (m : Nat) (e way : Int) : laidW neg m e way (laidF neg m e way).1 (laidF neg m e way).2 := by
  unfold laidW laidF
  by_cases h : 971 < e
  · rw [if_pos h]; exact .inl ⟨h, rfl, rfl⟩
  · rw [if_neg h]; exact .inr ⟨by omega, rfl, rfl⟩
/-- What laid gives, from below and from above. -/
def laidG (neg : Bool) (m : Nat) (e way : Int) : Int × Bool := if bl m ≤ 53 then laidF neg m e way else laidF neg (m / 2) (e + 1) way
theorem rlaidW_calls (a : Value) (m : Nat) (neg : Bool) (e way : Int) (w : World) (ha : IsNat w a m) (hm : bl m ≤ 54) (he1 : -1074 ≤ e) (he2 : e ≤ 268435456) (r : Int) (o : Bool) (hr : laidG neg m e way = (r, o)) :
    Calls Tryd.prog 78 #[wideV, .bool neg, a, .int .i64 e, .int .i64 way] w (RetV w (.tuple #[.int .u64 r, .bool o])) := by
  unfold laidG at hr
  by_cases h : bl m ≤ 53
  · rw [if_pos h] at hr
    have hl := laidW_F neg m e way
    rw [hr] at hl
    rcases Int.lt_or_le 971 e with h2 | h2
    · exact rlaid_b a m neg e way w ha h he1 he2 h2 r o hl
    · exact rlaid_a a m neg e way w ha h he1 he2 h2 r o hl
  · rw [if_neg h] at hr
    have hl := laidW_F neg (m / 2) (e + 1) way
    rw [hr] at hl
    rcases Int.lt_or_le 971 (e + 1) with h2 | h2
    · exact rlaid_d a m neg e way w ha (by omega) he1 he2 h2 r o hl
    · exact rlaid_c a m neg e way w ha (by omega) he1 he2 h2 r o hl
def scNn (N : Nat) (e : Int) : Nat := N * 2 ^ (-e).toNat
def e0F (P L : Int) (N D : Nat) : Int := mx ((bl N : Int) - bl D - P) L
def e1F (P L : Int) (N D : Nat) : Int := if P < bl (scNn N (e0F P L N D) / scNn D (-(e0F P L N D))) then e0F P L N D + 1 else e0F P L N D
/-- The place on the grid, rounded. -/
def gridF (neg : Bool) (way : Int) (N D : Nat) (e : Int) : Nat :=
  let n := scNn N e
  let d := scNn D (-e)
  if 0 < n % d ∧ awayB way neg (!decide (n / d % 2 = 0)) (cmpN (n % d * 2) d) = true then n / d + 1 else n / d
/-- What is rounded to, and whether it is beyond. -/
def rndW (neg : Bool) (way : Int) (N D : Nat) : Int × Bool :=
  if N = 0 then (0, false) else laidG neg (gridF neg way N D (e1F 53 (-1074) N D)) (e1F 53 (-1074) N D) way
theorem sc_lt {N D : Nat} {e : Int} (hD : 0 < D) (k : Nat) (h : (bl N : Int) - bl D - e < k) : scNn N e / scNn D (-e) < 2 ^ k := by
  unfold scNn
  rw [Nat.div_lt_iff_lt_mul (Nat.mul_pos hD (Nat.two_pow_pos _))]
  have h1 := lt_bl N
  have h2 : 2 ^ (bl D - 1) ≤ D := by
    refine Nat.le_of_not_lt fun q => ?_
    have := bl_le.2 q
    have := bl_pos hD
    omega
  have h3 : N * 2 ^ (-e).toNat < 2 ^ (bl N + (-e).toNat) := by
    rw [Nat.pow_add]; exact Nat.mul_lt_mul_of_pos_right h1 (Nat.two_pow_pos _)
  have h4 : 2 ^ k * (2 ^ (bl D - 1) * 2 ^ (- -e).toNat) ≤ 2 ^ k * (D * 2 ^ (- -e).toNat) := Nat.mul_le_mul_left _ (Nat.mul_le_mul_right _ h2)
  rw [← Nat.pow_add, ← Nat.pow_add] at h4
  refine Nat.lt_of_lt_of_le h3 (Nat.le_trans (Nat.pow_le_pow_right (by omega) ?_) h4)
  have := bl_pos hD
  omega
theorem e0_bl {P : Nat} {L : Int} {N D : Nat} (hD : 0 < D) : bl (scNn N (e0F P L N D) / scNn D (-(e0F P L N D))) ≤ P + 1 := by
  refine bl_le.2 (sc_lt hD _ ?_)
  unfold e0F mx
  split <;> omega
theorem e0_bl' {P : Nat} {L : Int} {N D : Nat} (hD : 0 < D) : bl (scNn N (e0F P L N D + 1) / scNn D (-(e0F P L N D + 1))) ≤ P := by
  refine bl_le.2 (sc_lt hD _ ?_)
  unfold e0F mx
  split <;> omega
theorem e1_bl {P : Nat} {L : Int} {N D : Nat} (hD : 0 < D) : bl (scNn N (e1F P L N D) / scNn D (-(e1F P L N D))) ≤ P := by
  unfold e1F
  split
  · exact e0_bl' hD
  · omega
theorem grid_bl {P : Nat} {neg : Bool} {way : Int} {N D : Nat} {e : Int} (h : bl (scNn N e / scNn D (-e)) ≤ P) : bl (gridF neg way N D e) ≤ P + 1 := by
  unfold gridF
  dsimp only
  refine bl_le.2 ?_
  have h1 := bl_le.1 h
  rw [Nat.pow_succ]
  have := Nat.two_pow_pos P
  split <;> omega
end Tt
