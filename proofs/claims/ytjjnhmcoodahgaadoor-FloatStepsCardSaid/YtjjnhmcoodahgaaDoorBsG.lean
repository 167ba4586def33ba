/- tontinebase's numbers of any size: DivMod, Gcd, Pow, in full. -/
import Derived.Test.YtjjnhmcoodahgaaDoorBsF
import Derived.KernelRfl
import Derived.RowKit3
import Derived.Deep.LoopGhost
import Derived.Deep.QuietTactic
import Derived.BigQuiet
import Derived.WideLaws
import Derived.Outline
import Derived.Lib.Hide
import Derived.WalkLawsBesides
import Derived.WalkSpells
namespace Tt
open Go Go.RowKit Go.Proofs
set_option linter.unusedSimpArgs false
set_option linter.unusedVariables false
set_option maxRecDepth 100000
attribute [local go_sem] max2_int min2_int max_two min_two

theorem nat_divmod (a b : Value) (n m : Nat) (w : World) (ha : IsNat w a n) (hb : IsNat w b m) (hm0 : 0 < m) (hn : bl n ≤ 549755813888) (hm : bl m ≤ 549755813888) :
    Calls Tryd.prog 69 #[a, b] w (RetNat2 w (n / m) (n % m)) := by
  rcases Nat.lt_or_ge n m with q | q
  · exact div_less a b n m w ha hb (by omega) (by omega) q
  · have ha0 := ha
    have hb0 := hb
    obtain ⟨A, c, l, rfl, hc, hcm, hi, hr, ht, hv⟩ := ha0
    obtain ⟨A', c', l', rfl, hc', hcm', hi', hr', ht', hv'⟩ := hb0
    rcases Nat.lt_or_ge l'.length 2 with q2 | q2
    · have hl : l'.length = 1 := by
        rcases Nat.eq_zero_or_pos l'.length with z | z
        · rw [List.eq_nil_of_length_eq_zero z] at hv'; simp at hv'; omega
        · omega
      obtain ⟨x, rfl⟩ := List.length_eq_one_iff.1 hl
      have hx := hr'.head
      simp at hv'
      exact div_one _ n m A' c' [x] w ha rfl hi' hb (by simpa using hv') (by omega) (by omega) q hm0 (by omega)
    · exact div_main A A' c c' l l' n m (l'.length - 2) w hi hi' ha hb hr hr' ht ht' hv hv' (by omega) hn q

theorem nat_gcd (a b : Value) (n m : Nat) (w : World) (ha : IsNat w a n) (hb : IsNat w b m) (hn : bl n ≤ 549755813888) (hm : bl m ≤ 549755813888) :
    Calls Tryd.prog 67 #[a, b] w (RetNat w (Nat.gcd n m)) := by
  go_enter Tryd.func67, Tryd.ntmps67
  go_wp2
  go_loopg [0, 1] m (fun g v0 v1 wr => ∃ x : Nat, IsNat wr v0 x ∧ IsNat wr v1 g ∧ Nat.gcd x g = Nat.gcd n m ∧ bl x ≤ 549755813888 ∧ bl g ≤ 549755813888 ∧ Ext w wr)
  case atStart => exact ⟨n, ha, hb, rfl, hn, hm, inferInstance⟩
  case round =>
    obtain ⟨x, hx, hg, hgcd, bx, bg, hE⟩ := hrel
    have HG := Lib.hid hgcd; clear hgcd
    rename_i gv0 gv1
    have hg0 := hg
    obtain ⟨A', c', l', rfl, hc', hcm', hi', hr', ht', hv'⟩ := hg0
    have V := Lib.hid hv'; clear hv'
    by_cases q : 0 < l'.length
    · have hgp : 0 < gk := by
        have := val_pos (by omega) hr' ht' (by intro e; rw [e] at q; simp at q)
        have := V.out
        omega
      go_wp2_with fail
      refine use (nat_divmod _ _ x gk _ hx hg hgp bx bg) ?_
      rintro e w1 ⟨u, v, rfl, hu, hv, hs⟩
      go_wp2
      go_roundg (x % gk)
      case measure => exact Nat.mod_lt _ hgp
      case rel =>
        refine ⟨gk, hg.up, hv, ?_, bg, Nat.le_trans (bl_mono (Nat.mod_le _ _)) bx, inferInstance⟩
        rw [← HG.out, Nat.gcd_comm gk, ← Nat.gcd_rec, Nat.gcd_comm]
    · have hgp : gk = 0 := by
        have : l' = [] := List.eq_nil_of_length_eq_zero (by omega)
        have h2 := V.out
        rw [this] at h2; simp at h2; omega
      have HZ := Lib.hid hgp; clear hgp
      go_wp2
      go_ret
      rw [← HG.out, HZ.out, Nat.gcd_zero_right]
      exact ⟨_, rfl, hx, Step.of⟩

theorem pow_step {y out g X C : Nat} (h : out * y ^ g = X) (hz : out = 0 → y = 0) (hg : 0 < g) (hX : bl X ≤ C) (ho : bl out ≤ C) {out' : Nat} (e : out' = if g % 2 = 1 then out * y else out) :
    (0 < g / 2 → out' * (y * y) ^ (g / 2) = X ∧ (out' = 0 → y * y = 0) ∧ bl (y * y) ≤ C ∧ bl out' ≤ C) ∧ (g / 2 = 0 → out' = X ∧ bl out' ≤ C) := by
  have e1 : y ^ g = y ^ (g % 2) * (y * y) ^ (g / 2) := by
    rw [← Nat.pow_two, ← Nat.pow_mul, ← Nat.pow_add]; congr 1; omega
  have e2 : out' * (y * y) ^ (g / 2) = X := by
    rw [← h, e1, ← Nat.mul_assoc, e]
    split
    · rename_i q; rw [q, Nat.pow_one]
    · rename_i q; rw [show g % 2 = 0 by omega, Nat.pow_zero, Nat.mul_one]
  have e3 : out' = 0 → y * y = 0 := by
    intro z
    rw [e] at z
    have : y = 0 := by
      split at z
      · rcases Nat.mul_eq_zero.1 z with z | z
        · exact hz z
        · exact z
      · exact hz z
    rw [this]
  refine ⟨fun q => ⟨e2, e3, ?_⟩, fun q => ?_⟩
  · rcases Nat.eq_zero_or_pos (y * y) with z | z
    · have hy : y = 0 := by rcases Nat.mul_eq_zero.1 z with z | z <;> exact z
      refine ⟨by rw [z]; simp [bl_zero], ?_⟩
      rw [e, hy]; split <;> simp [bl_zero, ho]
    · have op : 0 < out' := Nat.pos_of_ne_zero fun z' => by have := e3 z'; omega
      have p1 : 0 < (y * y) ^ (g / 2) := Nat.pow_pos z
      have p2 : (y * y) ^ 1 ≤ (y * y) ^ (g / 2) := Nat.pow_le_pow_right z q
      constructor
      · refine Nat.le_trans (bl_mono ?_) hX
        rw [← e2]
        have := Nat.mul_le_mul op p2
        simpa using this
      · refine Nat.le_trans (bl_mono ?_) hX
        rw [← e2]; exact Nat.le_mul_of_pos_right _ p1
  · rw [q, Nat.pow_zero, Nat.mul_one] at e2
    exact ⟨e2, by rw [e2]; exact hX⟩

end Tt
