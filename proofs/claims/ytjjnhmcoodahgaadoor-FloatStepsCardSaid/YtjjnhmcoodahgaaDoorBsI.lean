/- Numbers of any size, as the document keeps them: Bits, Even. -/
import Derived.Test.YtjjnhmcoodahgaaDoorBsG
namespace Tt
open Go Go.RowKit Go.Proofs
set_option linter.unusedSimpArgs false
set_option linter.unusedVariables false
set_option maxRecDepth 100000

def RetX' (w : World) (v : Value) (e : Ending) (w' : World) : Prop := e = .returned v ∧ w = w'
theorem bl_half {n : Nat} (h : 0 < n) : bl (n / 2) + 1 = bl n := by
  unfold bl
  rw [if_neg (by omega : ¬ n = 0)]
  by_cases h1 : n / 2 = 0
  · rw [if_pos h1]
    have : n = 1 := by omega
    subst this
    rfl
  · rw [if_neg h1, Nat.log2_def n, if_pos (by omega)]
theorem bl_eq {n b : Nat} (h1 : 2 ^ b ≤ n) (h2 : n < 2 ^ (b + 1)) : bl n = b + 1 := by
  have a := bl_le.2 h2
  have : ¬ bl n ≤ b := fun h => by have := bl_le.1 h; omega
  omega
theorem bl_top {x r k : Nat} (hx : 0 < x) (hr : r < 2 ^ k) : bl (r + 2 ^ k * x) = k + bl x := by
  have hb := lt_bl x
  have hp := bl_pos hx
  obtain ⟨c, hc⟩ : ∃ c, bl x = c + 1 := ⟨bl x - 1, by omega⟩
  have h2 : 2 ^ c ≤ x := by
    refine Nat.le_of_not_lt fun h => ?_
    have := bl_le.2 h; omega
  have hkp := Nat.two_pow_pos k
  rw [hc, ← Nat.add_assoc]
  apply bl_eq
  · rw [Nat.pow_add]
    have := Nat.mul_le_mul_left (2 ^ k) h2
    omega
  · rw [Nat.add_assoc, ← hc, Nat.pow_add]
    have : 2 ^ k * (x + 1) ≤ 2 ^ k * 2 ^ bl x := Nat.mul_le_mul_left _ hb
    rw [Nat.mul_add, Nat.mul_one] at this
    omega
theorem val_last {B : Int} {l : List Int} (h : l ≠ []) : val B l = val B (l.take (l.length - 1)) + B ^ (l.length - 1) * rd l (l.length - 1) := by
  have hl : 0 < l.length := List.length_pos_iff.2 h
  have e : l = l.take (l.length - 1) ++ [rd l (l.length - 1)] := by
    conv => lhs; rw [← List.take_append_drop (l.length - 1) l]
    congr 1
    rw [List.drop_eq_getElem_cons (by omega), List.drop_eq_nil_of_le (by omega)]
    congr 1
    rw [rd_def, List.getElem?_eq_getElem (by omega)]; rfl
  conv => lhs; rw [e, val_append]
  rw [List.length_take, Nat.min_eq_left (by omega)]
  congr 2
  simp [val]
theorem bl_last {l : List Int} {n : Nat} (h : l ≠ []) (r : Rng 1073741824 l) (t : Top l) (e : val 1073741824 l = n) : 30 * (l.length - 1) + bl (rd l (l.length - 1)).toNat = bl n := by
  have hl : 0 < l.length := List.length_pos_iff.2 h
  have h1 := val_last (B := 1073741824) h
  have hr := r (l.length - 1) (by omega)
  have ht := t h
  have h2 := val_nonneg (by omega : (0 : Int) < 1073741824) (r.take (l.length - 1))
  have h3 := val_lt (by omega : (0 : Int) < 1073741824) (r.take (l.length - 1))
  rw [List.length_take, Nat.min_eq_left (by omega)] at h3
  obtain ⟨x, hx⟩ := Int.eq_ofNat_of_zero_le hr.1
  obtain ⟨y, hy⟩ := Int.eq_ofNat_of_zero_le h2
  have hp : (1073741824 : Int) ^ (l.length - 1) = ((2 ^ (30 * (l.length - 1)) : Nat) : Int) := by
    rw [Nat.pow_mul, Int.natCast_pow]; rfl
  rw [hp] at h1 h3
  rw [hx] at h1 ht ⊢
  rw [hy] at h1 h3
  have : n = y + 2 ^ (30 * (l.length - 1)) * x := by
    rw [e] at h1; exact_mod_cast h1
  rw [this, bl_top (by omega) (by exact_mod_cast h3)]
  simp
theorem even_val {l : List Int} {n : Nat} (h : l ≠ []) (r : Rng 1073741824 l) (e : val 1073741824 l = n) : (rd l 0 % 2 == 0) = decide (n % 2 = 0) := by
  match l, h with
  | x :: l', _ =>
    have hv : val 1073741824 (x :: l') = x + 1073741824 * val 1073741824 l' := rfl
    have hr := (r 0 (by simp)).1
    have hx : rd (x :: l') 0 = x := rfl
    rw [hx] at hr ⊢
    generalize val 1073741824 l' = q at hv
    by_cases k : x % 2 = 0
    · rw [beq_t k, decide_eq_true (by omega)]
    · rw [beq_f k, decide_eq_false (by omega)]
set_option maxHeartbeats 4000000 in
theorem nat_bits (a : Value) (n : Nat) (w : World) (ha : IsNat w a n) (hn : bl n ≤ 1099511627776) (r : Int) (hr : bl n = r) : Calls Tryd.prog 72 #[a] w (RetX' w (.int .i64 r)) := by
  obtain ⟨A, c, l, rfl, hc, hcm, hi, hrg, ht, hv⟩ := ha
  have hlen := Nat.le_trans (IsNat.len hrg ht hv) hn
  by_cases e : l = []
  · subst e
    have h0 : n = 0 := by have : val 1073741824 [] = 0 := rfl
                          omega
    subst h0
    have : r = 0 := by rw [← hr, bl_zero]; rfl
    subst this
    go_enter Tryd.func72, Tryd.ntmps72
    go_wp2
    go_ret
    exact ⟨rfl, rfl⟩
  · have hl : 0 < l.length := List.length_pos_iff.2 e
    have hb := bl_last e hrg ht hv
    have hT := ht e
    obtain ⟨k, hk⟩ : ∃ k, l.length = k + 1 := ⟨l.length - 1, by omega⟩
    have hR := hrg (l.length - 1) (by omega)
    obtain ⟨ad, rfl, hcell⟩ := hi (l.length - 1) (by omega)
    obtain ⟨x, hx⟩ := Int.eq_ofNat_of_zero_le hR.1
    rw [hx] at hcell hR hT hb
    rw [hk, Nat.add_sub_cancel] at hb hcell
    rw [Int.toNat_natCast] at hb
    have hb : 30 * k + bl x = r := by rw [← hr]; omega
    have hbx : bl x ≤ 30 := bl_le.2 (by have := hR.2; omega)
    have HR := Lib.hid hb
    have hk1 : k + 1 ≤ 1099511627776 := by omega
    rw [hk] at hc ⊢
    clear hr hrg ht hv hi hx e hl hk hlen hb hn hT
    go_enter Tryd.func72, Tryd.ntmps72
    go_wp2
    have hrk : r ≤ 32985348833310 := by have := HR.out; omega
    clear hb hk1 hcell
    go_loopw [3, 4] (fun v3 v4 wr => ∃ (z : Int) (y : Nat), v3 = .int .i64 z ∧ v4 = .int .i64 y ∧ 0 ≤ z ∧ z + bl y = r ∧ y < 1073741824 ∧ wr = w) (fun _ v _ => (intOf v).toNat)
    case atStart => exact ⟨30 * k, x, rfl, rfl, by omega, HR.out, by omega, rfl⟩
    case round =>
      obtain ⟨z, y, rfl, rfl, hz, hs, hy, rfl⟩ := hrel
      by_cases h0 : 0 < y
      · have hh := bl_half h0
        have hd : (y : Int).tdiv 2 = ((y / 2 : Nat) : Int) := by rw [Int.tdiv_eq_ediv_of_nonneg (by omega)]; omega
        have hz2 : z ≤ 32985348833310 := by omega
        have hw2 : IntKind.i64.wrap ((y / 2 : Nat) : Int) = (y / 2 : Nat) := by simp [IntKind.wrap, IntKind.bits, IntKind.signed]; omega
        have HS := Lib.hid hs; clear hs
        go_wp2
        exact ⟨⟨z + 1, y / 2, rfl, rfl, by omega, by have := HS.out; omega, by omega, by trivial⟩, by simp [intOf]; omega⟩
      · obtain rfl : y = 0 := by omega
        obtain rfl : z = r := by rw [bl_zero] at hs; omega
        clear hs
        go_wp2
        go_ret
        exact ⟨rfl, rfl⟩
theorem nat_even (a : Value) (n : Nat) (w : World) (ha : IsNat w a n) (hn : bl n ≤ 1099511627776) (r : Bool) (hr : decide (n % 2 = 0) = r) : Calls Tryd.prog 76 #[a] w (RetX' w (.bool r)) := by
  obtain ⟨A, c, l, rfl, hc, hcm, hi, hrg, ht, hv⟩ := ha
  have hlen := Nat.le_trans (IsNat.len hrg ht hv) hn
  by_cases e : l = []
  · subst e
    have h0 : n = 0 := by have : val 1073741824 [] = 0 := rfl
                          omega
    subst h0
    have : r = true := by rw [← hr]; rfl
    subst this
    go_enter Tryd.func76, Tryd.ntmps76
    go_wp2
    go_ret
    exact ⟨rfl, rfl⟩
  · have hl : 0 < l.length := List.length_pos_iff.2 e
    have hb := (even_val e hrg hv).trans hr
    have hR := hrg 0 (by omega)
    obtain ⟨ad, rfl, hcell⟩ := hi 0 (by omega)
    have hcell : w.cell? ad = some (.int .i64 (rd l 0)) := hcell
    generalize rd l 0 = x at *
    generalize l.length = k at *
    have HB := Lib.hid hb
    have f0 : ((k : Int) == 0) = false := beq_f (by omega)
    clear hr hrg ht hv hi e hb hn
    go_enter Tryd.func76, Tryd.ntmps76
    go_wp2
    go_ret
    exact ⟨congrArg (fun z => Ending.returned (Value.bool z)) HB.out, rfl⟩
end Tt
