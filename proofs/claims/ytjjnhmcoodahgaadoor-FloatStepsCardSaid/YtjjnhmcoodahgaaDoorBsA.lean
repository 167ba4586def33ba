/- tontinebase's numbers of any size: the contracts of the first functions. -/
import Derived.Test.YtjjnhmcoodahgaaDoorProg
import Derived.Test.YtjjnhmcoodahgaaDoorMem
import Derived.KernelRfl
import Derived.RowKit3
import Derived.Deep.LoopGhost
import Derived.Deep.QuietTactic
import Derived.BigQuiet
import Derived.WideLaws
import Derived.Deep.DeepCutAuto
import Derived.Deep.RegionHeld3
import Derived.Laws.ResultCell
import Derived.Outline
import Derived.Lib.Hide
import Derived.WalkLawsBesides
import Derived.WalkSpells
namespace Tt
open Go Go.RowKit Go.Proofs
set_option linter.unusedSimpArgs false
set_option linter.unusedVariables false
set_option maxRecDepth 100000
attribute [local go_sem] max2_int min2_int max_two min_two

theorem info_int : (Tryd.prog.info? 3).map (fun i => (i.zero, i.size, i.bytes)) = some (some (.int .i64 0), 1, 8) := by kernel_rfl

/-! ### norm -/
def NormPost (A : Option Addr) (c : Nat) (l : List Int) (w : World) (e : Ending) (w' : World) : Prop :=
  ∃ n : Nat, e = .returned (.slice A n c) ∧ n ≤ l.length ∧ Zs l n ∧ (n = 0 ∨ rd l (n - 1) ≠ 0) ∧ w = w'

theorem norm_calls (A : Option Addr) (c : Nat) (l : List Int) (w : World) (hl : Ints w .i64 A l) (hc : l.length ≤ c) (hm : c ≤ 9223372036854775807) :
    Calls Tryd.prog 70 #[.slice A l.length c] w (NormPost A c l w) := by
  go_enter Tryd.func70, Tryd.ntmps70
  go_wp2
  go_loop [3] (fun v => ∃ n : Nat, v = .int .i64 n ∧ n ≤ l.length ∧ Zs l n) (fun v => (intOf v).toNat)
  case atStart => exact ⟨_, rfl, Nat.le_refl _, Zs.len l⟩
  case round =>
    obtain ⟨n, rfl, hn, hz⟩ := hrel
    by_cases h0 : 0 < n
    · obtain ⟨ad, rfl, hx⟩ := hl (n - 1) (by omega)
      by_cases hx0 : rd l (n - 1) = 0
      · have hb : (rd l (n - 1) == 0) = true := by simp [hx0]
        have HX := Lib.hid hx0; clear hx0
        go_wp2
        go_round
        case rel => exact ⟨n - 1, by go_num, by omega, hz.step' h0 HX.out⟩
        case measure => simp [intOf]; omega
      · have hb : (rd l (n - 1) == 0) = false := by simp [hx0]
        go_wp2
        go_ret
        exact ⟨n, rfl, hn, hz, .inr hx0, rfl⟩
    · have h1 : n = 0 := by omega
      subst h1
      go_wp2
      go_ret
      exact ⟨0, rfl, hn, hz, .inl rfl, rfl⟩

/-! ### Add -/
theorem add_list (A1 A2 : Option Addr) (c1 c2 : Nat) (l1 l2 : List Int) (w : World) (h1 : Ints w .i64 A1 l1) (h2 : Ints w .i64 A2 l2) (r1 : Rng 1073741824 l1) (r2 : Rng 1073741824 l2)
    (s1 : l1.length ≤ 1099511627776) (s2 : l2.length ≤ 1099511627776) (m : Nat) (hm : val 1073741824 l1 + val 1073741824 l2 = m) :
    Calls Tryd.prog 77 #[.slice A1 l1.length c1, .slice A2 l2.length c2] w (RetNat w m) := by
  have HM := Lib.hid hm; clear hm
  have hx := mx_le l1.length l2.length
  obtain ⟨N, hN⟩ : ∃ N : Nat, mx l1.length l2.length + 1 = N := ⟨_, (Int.toNat_of_nonneg (by omega)).symm⟩
  have hN1 : l1.length < N := by omega
  have hN2 : l2.length < N := by omega
  have hN3 : N ≤ 2199023255552 := by omega
  have hmk := make_ints (P := Tryd.prog) 85 3 .i64 8 Tryd.underlying85 info_int (by omega) _ N hN (by omega)
  have hx1 : 0 ≤ mx l1.length l2.length := by omega
  have hx2 : mx l1.length l2.length ≤ 1099511627776 := by omega
  clear hN hx
  go_enter Tryd.func77, Tryd.ntmps77
  go_wp2
  go_loopw [6, 7] (fun v6 v7 wr => ∃ (cy : Int) (k : Nat) (l : List Int), v6 = .int .i64 cy ∧ v7 = .int .i64 k ∧ AddInv 1073741824 l1 l2 N k cy l ∧ BlkI wr w.heap.size 3 .i64 l ∧ Below w.heap.size w wr) (fun _ v _ => N - (intOf v).toNat)
  case atStart => exact ⟨0, 0, _, rfl, rfl, AddInv.zero (by omega) _ _ _, BlkI.made _ _ _ _, (Below.refl _ _).alloc (Nat.le_refl _) _⟩
  case round =>
    obtain ⟨cy, k, l, rfl, rfl, HI, HB, hB⟩ := hrel
    have hc0 := HI.1
    have hc1 := HI.2.1
    by_cases hk : k < N
    · have hkl : k < l.length := by rw [HI.2.2.2.1]; exact hk
      have b1 := HB.cell hkl
      have b2 := HB.frozen k
      have : Ext w wr := ⟨hB⟩
      have a1 := r1.all (by omega) k
      have a2 := r2.all (by omega) k
      by_cases q1 : k < l1.length <;> by_cases q2 : k < l2.length
      · obtain ⟨ad1, rfl, x1⟩ := (h1.ext (b := wr)) k q1
        obtain ⟨ad2, rfl, x2⟩ := (h2.ext (b := wr)) k q2
        go_wp2
        exact ⟨⟨_, k + 1, _, rfl, by go_num, HI.step (by omega) hk r1 r2 rfl, HB.set _ _, hB.setCell (Nat.le_refl _) _⟩, by simp [intOf]; omega⟩
      · obtain ⟨ad1, rfl, x1⟩ := (h1.ext (b := wr)) k q1
        have Z := Lib.hid (rd_ge _ _ (Nat.le_of_not_lt q2)); clear a2
        go_wp2
        exact ⟨⟨_, k + 1, _, rfl, by go_num, HI.step (by omega) hk r1 r2 (by rw [Z.out]; omega), HB.set _ _, hB.setCell (Nat.le_refl _) _⟩, by simp [intOf]; omega⟩
      · obtain ⟨ad2, rfl, x2⟩ := (h2.ext (b := wr)) k q2
        have Z := Lib.hid (rd_ge _ _ (Nat.le_of_not_lt q1)); clear a1
        go_wp2
        exact ⟨⟨_, k + 1, _, rfl, by go_num, HI.step (by omega) hk r1 r2 (by rw [Z.out]; omega), HB.set _ _, hB.setCell (Nat.le_refl _) _⟩, by simp [intOf]; omega⟩
      · have Z := Lib.hid (rd_ge _ _ (Nat.le_of_not_lt q1)); have Z2 := Lib.hid (rd_ge _ _ (Nat.le_of_not_lt q2)); clear a1 a2
        go_wp2
        exact ⟨⟨_, k + 1, _, rfl, by go_num, HI.step (by omega) hk r1 r2 (by rw [Z.out, Z2.out]; omega), HB.set _ _, hB.setCell (Nat.le_refl _) _⟩, by simp [intOf]; omega⟩
    · obtain rfl : N = k := by have := HI.2.2.1; omega
      obtain rfl := HI.2.2.2.1
      have HF := Lib.hid (HI.fin (by omega) hN1 hN2 r1 r2)
      go_wp2_with fail
      refine (norm_calls _ _ l _ HB.ints (Nat.le_refl _) (by omega)).mono ?_
      rintro e w' ⟨n, rfl, hn, hz, ht, rfl⟩
      go_wp2_with fail
      go_ret
      exact ⟨_, rfl, IsNat.norm HB hn (by omega) HI.2.2.2.2.1 hz ht (HF.out.trans HM.out), ⟨hB⟩⟩

theorem nat_add (a b : Value) (n m : Nat) (w : World) (ha : IsNat w a n) (hb : IsNat w b m) (hn : bl n ≤ 1099511627776) (hm : bl m ≤ 1099511627776) :
    Calls Tryd.prog 77 #[a, b] w (RetNat w (n + m)) := by
  obtain ⟨A, c, l, rfl, hc, hcm, hi, hr, ht, hv⟩ := ha
  obtain ⟨A', c', l', rfl, hc', hcm', hi', hr', ht', hv'⟩ := hb
  exact add_list A A' c c' l l' w hi hi' hr hr' (Nat.le_trans (IsNat.len hr ht hv) hn) (Nat.le_trans (IsNat.len hr' ht' hv') hm) _ (by omega)

end Tt
