/- Floats by their bits: Gap of the document. -/
import Derived.Test.YtjjnhmcoodahgaaDoorFmE
import Derived.Test.YtjjnhmcoodahgaaDoorFmF
namespace Tt
open Go Go.RowKit Go.Proofs
set_option linter.unusedSimpArgs false
set_option linter.unusedVariables false
set_option maxRecDepth 100000

def P1074 : Nat := 2 ^ 1074
theorem gap_table {j : Nat} (h : j < 2046) : rndW false 6 (2 ^ j / Nat.gcd (2 ^ j) P1074) (P1074 / Nat.gcd (2 ^ j) P1074) = ((gapB j : Int), false) := by
  have t : ((List.range 2046).all fun j => decide (rndW false 6 (2 ^ j / Nat.gcd (2 ^ j) P1074) (P1074 / Nat.gcd (2 ^ j) P1074) = ((gapB j : Int), false))) = true := by decide +kernel
  exact of_decide_eq_true (List.all_eq_true.1 t j (List.mem_range.2 h))
theorem P1074_pos : 0 < P1074 := by decide +kernel
theorem P1074_bl : bl P1074 ≤ 1075 := by decide +kernel
theorem P1074_shl : 1 * 2 ^ (1074 : Int).toNat = P1074 := by decide +kernel
theorem IsNat.one_of {w : World} {g c : Nat} (h : w.cell? ⟨g, 0, none⟩ = some (.int .i64 1)) (hc : 1 ≤ c) (hc2 : c ≤ 9223372036854775807) : IsNat w (.slice (some ⟨g, 0, none⟩) 1 c) 1 := by
  refine ⟨some ⟨g, 0, none⟩, c, [1], rfl, hc, hc2, ?_, Rng.cons (by omega) (by omega) (Rng.nil _), fun _ => by simp, by simp⟩
  intro i hi
  have : i = 0 := by simp at hi; omega
  subst this
  exact ⟨_, rfl, h⟩
end Tt
