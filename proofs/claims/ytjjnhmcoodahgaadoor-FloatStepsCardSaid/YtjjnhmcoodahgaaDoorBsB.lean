/- tontinebase's numbers of any size: Sub, small, Mul, Cmp. -/
import Derived.Test.YtjjnhmcoodahgaaDoorBsA
import Derived.KernelRfl
import Derived.RowKit3
import Derived.Deep.LoopGhost
import Derived.Deep.QuietTactic
import Derived.BigQuiet
import Derived.WideLaws
import Derived.Outline
import Derived.Lib.Hide
import Derived.WalkLawsBesides
import Derived.WalkSpells
namespace Tt
open Go Go.RowKit Go.Proofs
set_option linter.unusedSimpArgs false
set_option linter.unusedVariables false
set_option maxRecDepth 100000
attribute [local go_sem] max2_int min2_int max_two min_two

/-! ### Sub -/
def RetNatInt (w : World) (n : Nat) (r : Int) (e : Ending) (w' : World) : Prop := ∃ v, e = .returned (.tuple #[v, .int .i64 r]) ∧ IsNat w' v n ∧ Step w w'

theorem small_list (A1 : Option Addr) (c1 : Nat) (l1 : List Int) (d : Int) (w : World) (h1 : Ints w .i64 A1 l1) (r1 : Rng 1073741824 l1) (d0 : 0 < d) (d1 : d ≤ 1073741824)
    (s1 : l1.length ≤ 1099511627776) (n : Nat) (hn : val 1073741824 l1 = n) (dn : Nat) (hd : d = dn) :
    Calls Tryd.prog 89 #[.slice A1 l1.length c1, .int .i64 d] w (RetNatInt w (n / dn) ((n % dn : Nat) : Int)) := by
  have HN := Lib.hid hn; clear hn
  have HD := Lib.hid hd; clear hd
  have hmk := make_ints (P := Tryd.prog) 85 3 .i64 8 Tryd.underlying85 info_int (by omega) _ l1.length rfl (by omega)
  go_enter Tryd.func89, Tryd.ntmps89
  go_wp2
  go_loopw [7, 8] (fun v7 v8 wr => ∃ (r : Int) (k : Nat) (x : Int) (l : List Int), v7 = .int .i64 r ∧ v8 = .int .i64 x ∧ x = (k : Int) - 1 ∧ SmallInv 1073741824 d l1 k r l ∧ BlkI wr w.heap.size 3 .i64 l ∧ Below w.heap.size w wr) (fun _ v _ => (intOf v + 1).toNat)
  case atStart => exact ⟨0, _, _, _, rfl, rfl, rfl, SmallInv.zero (by omega) d0 _, BlkI.made _ _ _ _, (Below.refl _ _).alloc (Nat.le_refl _) _⟩
  case round =>
    obtain ⟨r, k, x, l, rfl, rfl, hx, HI, HB, hB⟩ := hrel
    have hc0 := HI.1
    have hc1 := HI.2.1
    have hkn := HI.2.2.1
    cases k with
    | succ k =>
      obtain rfl : x = (k : Int) := by omega
      clear hx
      have hkl : k < l.length := by rw [HI.2.2.2.1]; exact hkn
      have b1 := HB.cell hkl
      have b2 := HB.frozen k
      have : Ext w wr := ⟨hB⟩
      have a1 := r1.all (by omega) k
      obtain ⟨ad1, rfl, x1⟩ := (h1.ext (b := wr)) k (by omega)
      have q0 : 0 ≤ (r * 1073741824 + rd l1 k) / d := Int.ediv_nonneg (by omega) (by omega)
      have q1 : (r * 1073741824 + rd l1 k) / d < 1152921504606846976 := Int.lt_of_le_of_lt (Int.ediv_le_self _ (by omega)) (by omega)
      have m0 := Int.emod_nonneg (r * 1073741824 + rd l1 k) (by omega : d ≠ 0)
      have m1 := Int.emod_lt_of_pos (r * 1073741824 + rd l1 k) d0
      go_wp2
      exact ⟨⟨_, k, _, _, rfl, rfl, rfl, HI.step (by omega) d0 r1 rfl, HB.set _ _, hB.setCell (Nat.le_refl _) _⟩, by simp [intOf] <;> omega⟩
    | zero =>
      obtain rfl : x = -1 := by omega
      clear hx
      have HL := Lib.hid HI.2.2.2.1
      have HF := Lib.hid HI.fin
      go_wp2_with fail
      rw [← HL.out]
      refine (norm_calls _ _ l _ HB.ints (Nat.le_refl _) (by rw [HL.out]; omega)).mono ?_
      rintro e w' ⟨n', rfl, hn', hz, ht, rfl⟩
      go_wp2_with fail
      go_ret2
      have e1 := HF.out
      rw [HN.out, HD.out] at e1
      have p := val_nonneg (by omega : (0 : Int) < 1073741824) HI.2.2.2.2.1
      have hdp : 0 < dn := by have := HD.out; omega
      have q : val 1073741824 l = ((n / dn : Nat) : Int) ∧ r = ((n % dn : Nat) : Int) := by
        obtain ⟨v, hv⟩ := Int.eq_ofNat_of_zero_le p
        obtain ⟨s, hs⟩ := Int.eq_ofNat_of_zero_le hc0
        rw [hv, hs] at e1 ⊢
        have e2 : n = dn * v + s := by exact_mod_cast e1
        have e3 : s < dn := by rw [hs, HD.out] at hc1; omega
        subst e2
        rw [Nat.mul_add_div hdp, Nat.div_eq_of_lt e3, Nat.mul_add_mod, Nat.mod_eq_of_lt e3]
        simp
      rw [q.2]
      exact ⟨_, rfl, IsNat.norm HB hn' (by rw [HL.out]; omega) HI.2.2.2.2.1 hz ht q.1, ⟨hB⟩⟩

theorem nat_small (a : Value) (n d : Nat) (x : Int) (w : World) (ha : IsNat w a n) (hn : bl n ≤ 1099511627776) (hx : x = d) (d0 : 0 < d) (d1 : d ≤ 1073741824) :
    Calls Tryd.prog 89 #[a, .int .i64 x] w (RetNatInt w (n / d) ((n % d : Nat) : Int)) := by
  obtain ⟨A, c, l, rfl, hc, hcm, hi, hr, ht, hv⟩ := ha
  exact small_list A c l x w hi hr (by omega) (by omega) (Nat.le_trans (IsNat.len hr ht hv) hn) n hv d hx

/-! ### Mul -/
def cmpN (n m : Nat) : Int := if n < m then -1 else if m < n then 1 else 0

theorem cmp_list (A1 A2 : Option Addr) (c1 c2 : Nat) (l1 l2 : List Int) (w : World) (h1 : Ints w .i64 A1 l1) (h2 : Ints w .i64 A2 l2) (r1 : Rng 1073741824 l1) (r2 : Rng 1073741824 l2) (t1 : Top l1) (t2 : Top l2)
    (s1 : l1.length ≤ 1099511627776) (s2 : l2.length ≤ 1099511627776) (n m : Nat) (hn : val 1073741824 l1 = n) (hm : val 1073741824 l2 = m) :
    Calls Tryd.prog 68 #[.slice A1 l1.length c1, .slice A2 l2.length c2] w (RetInt w (cmpN n m)) := by
  have HN := Lib.hid hn; clear hn
  have HM := Lib.hid hm; clear hm
  by_cases e : l1.length = l2.length
  · have f1 : ((l1.length : Int) != (l2.length : Int)) = false := by simp [e]
    have E := Lib.hid e; clear e
    go_enter Tryd.func68, Tryd.ntmps68
    go_wp2
    go_loopw [5] (fun v5 wr => ∃ (k : Nat) (x : Int), v5 = .int .i64 x ∧ x = (k : Int) - 1 ∧ k ≤ l1.length ∧ (∀ i, k ≤ i → rd l1 i = rd l2 i) ∧ Ext w wr) (fun v _ => (intOf v + 1).toNat)
    case atStart => exact ⟨_, _, rfl, rfl, Nat.le_refl _, fun i hi => by rw [rd_ge _ _ hi, rd_ge _ _ (by have := E.out; omega)], inferInstance⟩
    case round =>
      obtain ⟨k, x, rfl, hx, hk, hs, hE⟩ := hrel
      have HS := Lib.hid hs; clear hs
      cases k with
      | succ k =>
        obtain rfl : x = (k : Int) := by omega
        clear hx
        have hk2 : k < l2.length := by have := E.out; omega
        obtain ⟨ad1, rfl, x1⟩ := (h1.ext (b := wr)) k hk
        obtain ⟨ad2, rfl, x2⟩ := (h2.ext (b := wr)) k hk2
        have hi0 : (0 : Int) ≤ (k : Int) := by omega
        have hi1 : (k : Int) < (l1.length : Int) := by omega
        have hi2 : (k : Int) < (l2.length : Int) := by omega
        rcases Int.lt_trichotomy (rd l1 k) (rd l2 k) with q | q | q
        · have q1 : decide (rd l1 k < rd l2 k) = true := by simp [q]
          have hlt := val_lt_of_top (by omega) r1 r2 E.out k (by omega) (fun i hi => HS.out i (by omega)) q
          have hf : cmpN n m = -1 := by unfold cmpN; rw [if_pos (by have := HN.out; have := HM.out; omega)]
          have HF := Lib.hid hf; clear hf hlt
          go_wp2_with fail
          go_quiet (fail)
          go_wp2
          go_ret
          rw [HF.out]
          exact ⟨rfl, Step.of⟩
        · have q1 : decide (rd l1 k < rd l2 k) = false := by simp [q]
          have q2 : decide (rd l2 k < rd l1 k) = false := by simp [q]
          have Q := Lib.hid q; clear q
          go_wp2_with fail
          go_quiet (fail)
          go_wp2_with fail
          go_quiet (fail)
          go_wp2
          refine ⟨⟨k, _, rfl, rfl, by omega, fun i hi => ?_, inferInstance⟩, by simp [intOf] <;> omega⟩
          by_cases e : i = k
          · rw [e]; exact Q.out
          · exact HS.out i (by omega)
        · have q1 : decide (rd l1 k < rd l2 k) = false := by simp; omega
          have q2 : decide (rd l2 k < rd l1 k) = true := by simp [q]
          have hlt := val_lt_of_top (by omega) r2 r1 E.out.symm k hk2 (fun i hi => (HS.out i (by omega)).symm) q
          have hf : cmpN n m = 1 := by unfold cmpN; rw [if_neg (by have := HN.out; have := HM.out; omega), if_pos (by have := HN.out; have := HM.out; omega)]
          have HF := Lib.hid hf; clear hf hlt
          go_wp2_with fail
          go_quiet (fail)
          go_wp2_with fail
          go_quiet (fail)
          go_wp2
          go_ret
          rw [HF.out]
          exact ⟨rfl, Step.of⟩
      | zero =>
        obtain rfl : x = -1 := by omega
        clear hx
        have el : l1 = l2 := ext_rd E.out fun i _ => HS.out i (by omega)
        have hf : cmpN n m = 0 := by
          have : (n : Int) = m := by rw [← HN.out, ← HM.out, el]
          unfold cmpN; rw [if_neg (by omega), if_neg (by omega)]
        have HF := Lib.hid hf; clear hf el
        go_wp2
        go_ret
        rw [HF.out]
        exact ⟨rfl, Step.of⟩
  · have f1 : ((l1.length : Int) != (l2.length : Int)) = true := by simp; omega
    by_cases q : l1.length < l2.length
    · have hlt := val_lt_of_length (by omega) r1 r2 t2 q
      have hf : cmpN n m = -1 := by unfold cmpN; rw [if_pos (by have := HN.out; have := HM.out; omega)]
      have HF := Lib.hid hf; clear hf hlt
      go_enter Tryd.func68, Tryd.ntmps68
      go_wp2
      go_ret
      rw [HF.out]
      exact ⟨rfl, Step.of⟩
    · have hlt := val_lt_of_length (by omega) r2 r1 t1 (by omega)
      have hf : cmpN n m = 1 := by unfold cmpN; rw [if_neg (by have := HN.out; have := HM.out; omega), if_pos (by have := HN.out; have := HM.out; omega)]
      have HF := Lib.hid hf; clear hf hlt
      go_enter Tryd.func68, Tryd.ntmps68
      go_wp2
      go_ret
      rw [HF.out]
      exact ⟨rfl, Step.of⟩

theorem nat_cmp (a b : Value) (n m : Nat) (w : World) (ha : IsNat w a n) (hb : IsNat w b m) (hn : bl n ≤ 1099511627776) (hm : bl m ≤ 1099511627776) :
    Calls Tryd.prog 68 #[a, b] w (RetInt w (cmpN n m)) := by
  obtain ⟨A, c, l, rfl, hc, hcm, hi, hr, ht, hv⟩ := ha
  obtain ⟨A', c', l', rfl, hc', hcm', hi', hr', ht', hv'⟩ := hb
  exact cmp_list A A' c c' l l' w hi hi' hr hr' ht ht' (Nat.le_trans (IsNat.len hr ht hv) hn) (Nat.le_trans (IsNat.len hr' ht' hv') hm) n m hv hv'

end Tt
