/- tontinebase's numbers of any size: DivMod. -/
import Derived.Test.YtjjnhmcoodahgaaDoorBsD
import Derived.Test.YtjjnhmcoodahgaaDoorDiv
import Derived.KernelRfl
import Derived.RowKit3
import Derived.Deep.LoopGhost
import Derived.Deep.QuietTactic
import Derived.BigQuiet
import Derived.WideLaws
import Derived.Outline
import Derived.Lib.Hide
import Derived.WalkLawsBesides
import Derived.WalkSpells
namespace Tt
open Go Go.RowKit Go.Proofs
set_option linter.unusedSimpArgs false
set_option linter.unusedVariables false
set_option maxRecDepth 100000
attribute [local go_sem] max2_int min2_int max_two min_two

def RetNat2 (w : World) (n m : Nat) (e : Ending) (w' : World) : Prop := ∃ u v, e = .returned (.tuple #[u, v]) ∧ IsNat w' u n ∧ IsNat w' v m ∧ Step w w'

theorem div_less (a b : Value) (n m : Nat) (w : World) (ha : IsNat w a n) (hb : IsNat w b m) (hn : bl n ≤ 1099511627776) (hm : bl m ≤ 1099511627776) (h : n < m) :
    Calls Tryd.prog 69 #[a, b] w (RetNat2 w (n / m) (n % m)) := by
  have e1 := Nat.div_eq_of_lt h
  have e2 := Nat.mod_eq_of_lt h
  have hc := nat_cmp a b n m w ha hb hn hm
  rw [show cmpN n m = -1 by unfold cmpN; rw [if_pos h]] at hc
  have E1 := Lib.hid e1; have E2 := Lib.hid e2; clear e1 e2 h hm hn
  have HC := Lib.hid hc; clear hc
  go_enter Tryd.func69, Tryd.ntmps69
  go_wp2_with fail
  refine HC.out.mono ?_
  rintro e w' ⟨rfl, hs⟩
  go_wp2_with fail
  go_ret2
  rw [E1.out, E2.out]
  exact ⟨_, _, rfl, IsNat.zero _, ha.ext, Step.of⟩

theorem div_one (a : Value) (n m : Nat) (A2 : Option Addr) (c2 : Nat) (l2 : List Int) (w : World) (ha : IsNat w a n) (hl2 : l2.length = 1) (h2 : Ints w .i64 A2 l2) (hb : IsNat w (.slice A2 l2.length c2) m) (hv : rd l2 0 = m) (hn : bl n ≤ 1099511627776) (hm : bl m ≤ 1099511627776)
    (h : m ≤ n) (hm0 : 0 < m) (hm1 : m < 1073741824) : Calls Tryd.prog 69 #[a, .slice A2 l2.length c2] w (RetNat2 w (n / m) (n % m)) := by
  have hc := nat_cmp a _ n m w ha hb hn hm
  have hc0 : 0 ≤ cmpN n m := by unfold cmpN; rw [if_neg (by omega)]; split <;> omega
  have HC := Lib.hid hc; clear hc
  have f1 : ((l2.length : Int) == 1) = true := beq_t (by omega)
  obtain ⟨ad, rfl, x2⟩ := h2 0 (by omega)
  have hp : 0 < l2.length := by omega
  have HV := Lib.hid hv
  have HL := Lib.hid hl2; clear hl2 hv
  go_enter Tryd.func69, Tryd.ntmps69
  go_wp2_with fail
  refine HC.out.mono ?_
  rintro e w' ⟨rfl, hs⟩
  have x3 := (inferInstance : Ext w w').cell x2
  rw [add_nought] at x3
  go_wp2_with fail
  refine use (nat_small _ n m _ _ ha.up hn HV.out hm0 (by omega)) ?_
  rintro e w1 ⟨v1, rfl, hq, hs1⟩
  have hr : n % m < 1073741824 := Nat.lt_trans (Nat.mod_lt _ hm0) hm1
  go_wp2_with fail
  refine use (nat_of _ (n % m) _ rfl (by omega)) ?_
  rintro e w2 ⟨v2, rfl, hr2, hs2⟩
  go_wp2_with fail
  go_ret2
  exact ⟨_, _, rfl, hq.ext, hr2, Step.of⟩

end Tt
