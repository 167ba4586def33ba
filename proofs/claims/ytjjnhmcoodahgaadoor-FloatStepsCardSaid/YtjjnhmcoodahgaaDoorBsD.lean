/- tontinebase's numbers of any size: Shl, Shr. -/
import Derived.Test.YtjjnhmcoodahgaaDoorBsC
import Derived.KernelRfl
import Derived.RowKit3
import Derived.Deep.LoopGhost
import Derived.Deep.QuietTactic
import Derived.BigQuiet
import Derived.WideLaws
import Derived.Outline
import Derived.Laws.BitsLemmas
import Derived.Lib.Hide
import Derived.WalkLawsBesides
import Derived.WalkSpells
namespace Tt
open Go Go.RowKit Go.Proofs
set_option linter.unusedSimpArgs false
set_option linter.unusedVariables false
set_option maxRecDepth 100000
attribute [local go_sem] max2_int min2_int max_two min_two

theorem two_pow_30 (q s : Nat) : (2 : Int) ^ s * 1073741824 ^ q = 2 ^ (30 * q + s) := by
  rw [Int.pow_add, Int.pow_mul, Int.mul_comm]
  rfl
theorem pow_30 {s : Nat} (h : s < 30) : (0 : Int) < 2 ^ s ∧ (2 : Int) ^ s ≤ 536870912 := by
  have h1 : (2 : Int) ^ s ≤ 2 ^ 29 := pow_le_pow (by omega) (by omega)
  exact ⟨pow_pos' (by omega) _, by simpa using h1⟩

theorem shl_list (A1 : Option Addr) (c1 : Nat) (l1 : List Int) (x : Int) (w : World) (h1 : Ints w .i64 A1 l1) (r1 : Rng 1073741824 l1) (h0 : 0 ≤ x) (hx : x ≤ 1099511627776)
    (s1 : l1.length ≤ 1099511627776) (m : Nat) (hm : val 1073741824 l1 * 2 ^ x.toNat = m) :
    Calls Tryd.prog 57 #[.slice A1 l1.length c1, .int .i64 x] w (RetNat w m) := by
  have HM := Lib.hid hm; clear hm
  by_cases e1 : l1.length = 0
  · have f1 : ((l1.length : Int) == 0) = true := by simp [e1]
    have e0 : l1 = [] := List.eq_nil_of_length_eq_zero e1
    clear e1
    go_enter Tryd.func57, Tryd.ntmps57
    go_wp2
    go_ret
    have hm0 : m = 0 := by have := HM.out; rw [e0] at this; simpa [eq_comm] using this
    rw [hm0]
    exact ⟨_, rfl, IsNat.zero _, Step.of⟩
  have f1 : ((l1.length : Int) == 0) = false := beq_f (by omega)
  have hmk := make_ints (P := Tryd.prog) 85 3 .i64 8 Tryd.underlying85 info_int (by omega) ((l1.length : Int) + x / 30 + 1) (l1.length + (x / 30).toNat + 1) (by omega) (by omega)
  have P := pow_30 (s := (x % 30).toNat) (by omega)
  go_enter Tryd.func57, Tryd.ntmps57
  go_wp2
  go_loopw [6, 7] (fun v6 v7 wr => ∃ (cy : Int) (k : Nat) (l : List Int), v6 = .int .i64 cy ∧ v7 = .int .i64 k ∧ ShlInv 1073741824 (2 ^ (x % 30).toNat) (x / 30).toNat l1 k cy l ∧ BlkI wr w.heap.size 3 .i64 l ∧ Below w.heap.size w wr) (fun _ v _ => l1.length - (intOf v).toNat)
  case atStart => exact ⟨0, 0, _, rfl, rfl, ShlInv.zero (by omega) P.1 _ _, BlkI.made _ _ _ _, (Below.refl _ _).alloc (Nat.le_refl _) _⟩
  case round =>
    obtain ⟨cy, k, l, rfl, rfl, HI, HB, hB⟩ := hrel
    have hc0 := HI.1
    have hc1 : cy < 1073741824 := by have := HI.2.1; omega
    have HL := Lib.hid HI.2.2.2.1
    have : Ext w wr := ⟨hB⟩
    by_cases hk : k < l1.length
    · have ek : ((k : Int) + x / 30).toNat = k + (x / 30).toNat := by omega
      have hkl : ((k : Int) + x / 30).toNat < l.length := by rw [HL.out]; omega
      have b1 := HB.cell hkl
      have b2 := HB.frozen ((k : Int) + x / 30).toNat
      have EK := Lib.hid ek; clear ek
      have a1 := r1.all (by omega) k
      have a2 : 0 ≤ rd l1 k * 2 ^ (x % 30).toNat := Int.mul_nonneg a1.1 (by omega)
      have a3 : rd l1 k * 2 ^ (x % 30).toNat ≤ 1073741824 * 536870912 := Int.mul_le_mul (by omega) P.2 (by omega) (by omega)
      obtain ⟨ad1, rfl, x1⟩ := (h1.ext (b := wr)) k hk
      go_wp2
      refine ⟨⟨_, k + 1, _, rfl, by go_num, HI.step (by omega) hk r1 rfl, ?_, hB.setCell (Nat.le_refl _) _⟩, by simp [intOf] <;> omega⟩
      rw [EK.out]
      exact HB.set _ _
    · obtain rfl : l1.length = k := by have := HI.2.2.1; omega
      have ek : ((l1.length : Int) + x / 30).toNat = l1.length + (x / 30).toNat := by omega
      have hkl : ((l1.length : Int) + x / 30).toNat < l.length := by rw [HL.out]; omega
      have b1 := HB.cell hkl
      have b2 := HB.frozen ((l1.length : Int) + x / 30).toNat
      have EK := Lib.hid ek; clear ek
      have HF := Lib.hid (HI.fin (by omega) (by omega))
      go_wp2_with fail
      rw [EK.out]
      have HB2 := HB.set (l1.length + (x / 30).toNat) cy
      have HL2 := Lib.hid (show l1.length + (x / 30).toNat + 1 = (l.set (l1.length + (x / 30).toNat) cy).length by rw [List.length_set, HL.out])
      generalize hl' : l.set (l1.length + (x / 30).toNat) cy = l' at *
      rw [HL2.out]
      refine (norm_calls _ _ l' _ HB2.ints (Nat.le_refl _) (by rw [← HL2.out]; omega)).mono ?_
      rintro e w' ⟨n, rfl, hn, hz, ht, rfl⟩
      go_wp2_with fail
      go_ret
      refine ⟨_, rfl, IsNat.norm HB2 hn (by rw [← HL2.out]; omega) HF.out.2.1 hz ht ?_, Step.of⟩
      rw [HF.out.1, Int.mul_assoc, two_pow_30, ← HM.out, show 30 * (x / 30).toNat + (x % 30).toNat = x.toNat by omega]

theorem nat_shl (a : Value) (n : Nat) (x : Int) (w : World) (ha : IsNat w a n) (hn : bl n ≤ 1099511627776) (h0 : 0 ≤ x) (hx : x ≤ 1099511627776) :
    Calls Tryd.prog 57 #[a, .int .i64 x] w (RetNat w (n * 2 ^ x.toNat)) := by
  obtain ⟨A, c, l, rfl, hc, hcm, hi, hr, ht, hv⟩ := ha
  exact shl_list A c l x w hi hr h0 hx (Nat.le_trans (IsNat.len hr ht hv) hn) _ (by rw [hv]; simp)

theorem i64_in (n : Int) (h0 : 0 ≤ n) (h : n < 2 ^ 63) : IntKind.i64.wrap n = n := by
  have h : n < 9223372036854775808 := by simpa using h
  simp [IntKind.wrap, IntKind.bits, IntKind.signed]; omega
theorem land_mask (x : Int) (s : Nat) (h : 0 ≤ x) (h1 : x < 9223372036854775808) (hs : s ≤ 63) : bits .and .i64 x (2 ^ s - 1) = x % 2 ^ s :=
  bits_mask .i64 63 (by decide) i64_in s hs x h (by simpa using h1)

theorem shr_val {n q s : Nat} {l1 l : List Int} {cy : Int} (h : val 1073741824 l1 = n) (hq : q ≤ l1.length) (r1 : Rng 1073741824 l1) (hl : val 1073741824 (l1.drop q) = 2 ^ s * val 1073741824 l + cy) (h0 : 0 ≤ cy) (h1 : cy < 2 ^ s) (rl : Rng 1073741824 l) :
    val 1073741824 l = ((n / 2 ^ (30 * q + s) : Nat) : Int) := by
  have e := val_append 1073741824 (l1.take q) (l1.drop q)
  rw [List.take_append_drop, h, List.length_take, Nat.min_eq_left hq, hl] at e
  have b0 := val_nonneg (by omega : (0 : Int) < 1073741824) (r1.take q)
  have b1 := val_lt (by omega : (0 : Int) < 1073741824) (r1.take q)
  rw [List.length_take, Nat.min_eq_left hq] at b1
  have p := pow_pos' (by omega : (0 : Int) < 1073741824) q
  have v0 := val_nonneg (by omega : (0 : Int) < 1073741824) rl
  rw [Int.natCast_ediv, natpow_cast, show ((2 : Nat) : Int) = 2 from rfl, ← two_pow_30 q s]
  generalize (1073741824 : Int) ^ q = B at *
  generalize (2 : Int) ^ s = P at *
  generalize val 1073741824 l = V at *
  generalize val 1073741824 (l1.take q) = W at *
  have e2 : (n : Int) = (B * cy + W) + (P * B) * V := by rw [e]; grind
  have hP : 0 < P := by omega
  have hPB : 0 < P * B := Int.mul_pos hP p
  have h3 : 0 ≤ B * cy := Int.mul_nonneg (by omega) h0
  have h4 : B * (cy + 1) ≤ B * P := Int.mul_le_mul_of_nonneg_left (by omega) (by omega)
  have h5 : B * (cy + 1) = B * cy + B := by grind
  have h6 : P * B = B * P := Int.mul_comm _ _
  rw [e2, Int.add_mul_ediv_left _ _ (by omega), Int.ediv_eq_zero_of_lt (by omega) (by omega), Int.zero_add]

theorem shr_list (ad1 : Addr) (c1 : Nat) (l1 : List Int) (x : Int) (w : World) (h1 : Ints w .i64 (some ad1) l1) (hc1 : l1.length ≤ c1) (r1 : Rng 1073741824 l1) (h0 : 0 ≤ x) (hx : x / 30 < l1.length)
    (s1 : l1.length ≤ 1099511627776) (n : Nat) (hm : val 1073741824 l1 = n) :
    Calls Tryd.prog 91 #[.slice (some ad1) l1.length c1, .int .i64 x] w (RetNat w (n / 2 ^ x.toNat)) := by
  have HM := Lib.hid hm; clear hm
  obtain ⟨l2, hl2⟩ : ∃ l2, l2 = l1.drop (x / 30).toNat := ⟨_, rfl⟩
  have hL := Lib.hid (show l1.length - (x / 30).toNat = l2.length by rw [hl2, List.length_drop])
  have hl2p : 0 < l2.length := by rw [← hL.out]; omega
  have hl2b : l2.length ≤ 1099511627776 := by rw [← hL.out]; omega
  have hi2 : Ints w .i64 (some (ad1.add (x / 30).toNat)) l2 := by rw [hl2]; exact h1.drop _
  have r2 : Rng 1073741824 l2 := by rw [hl2]; exact r1.drop _
  have HL2 := Lib.hid hl2; clear hl2
  have P := pow_30 (s := (x % 30).toNat) (by omega)
  go_enter Tryd.func91, Tryd.ntmps91
  go_wp2_with ((with_reducible refine gate (N := 19) rfl ?_); refine app_ints (w0 := w) w.heap.size (.tmp 14) (.tmp 18) _ _ _ .i64 8 rfl rfl Tryd.underlying85 Tryd.underlying86 info_int (by omega) _ [] l2 _ _ _ rfl rfl hL.out hi2.ext (own_empty _ _ _ _ (Nat.le_refl _)) inferInstance (by simp) (Nat.le_refl _) (by simp; omega) ?_; intro v1 w1 HO1 HE1 _ _; rw [List.nil_append] at HO1; obtain ⟨g, cg, rfl, hg, hcg, hcm, sp, HBp⟩ := own_blk HO1 hl2p; clear HO1)
  go_loopw [6, 7, 8] (fun v6 v7 _ wr => ∃ (cy : Int) (k : Nat) (y : Int) (l : List Int), v6 = .int .i64 cy ∧ v7 = .int .i64 y ∧ y = (k : Int) - 1 ∧ SmallInv 1073741824 (2 ^ (x % 30).toNat) l2 k cy l ∧ (∀ i, i < k → rd l i = rd l2 i) ∧ BlkI' wr g 3 .i64 l sp ∧ Ext w wr) (fun _ v _ _ => (intOf v + 1).toNat)
  case atStart => exact ⟨0, _, _, l2, rfl, rfl, rfl, SmallInv.zero' P.1 rfl r2, fun _ _ => rfl, HBp, HE1⟩
  case round =>
    obtain ⟨cy, k, y, l, rfl, rfl, hy, HI, hs, HB, hE⟩ := hrel
    have HS := Lib.hid hs; clear hs
    have hc0 := HI.1
    have hc1 := HI.2.1
    have HL := Lib.hid HI.2.2.2.1
    have hkn := HI.2.2.1
    have : Fresh w g := ⟨hg⟩
    cases k with
    | succ k =>
      obtain rfl : y = (k : Int) := by omega
      clear hy
      have hkl : k < l.length := by rw [HL.out]; exact hkn
      have b1 := HB.cell hkl
      have b2 := HB.frozen k
      have e1 := HS.out k (by omega)
      have a1 := HI.2.2.2.2.1.all (by omega) k
      have M1 := Lib.hid (land_mask (rd l k + cy * 1073741824) (x % 30).toNat (by omega) (by omega) (by omega))
      have E1 := Lib.hid e1; clear e1
      have P2 : (2 : Int) ^ (x % 30).toNat ≤ 9223372036854775807 := by omega
      go_wp2
      rw [M1.out]
      refine ⟨⟨_, k, _, _, rfl, rfl, rfl, HI.step (by omega) P.1 r2 (by rw [← E1.out]; omega), fun i hi => ?_, HB.set hkl _, inferInstance⟩, by simp [intOf] <;> omega⟩
      rw [rd_set_ne _ _ _ _ (by omega)]; exact HS.out i (by omega)
    | zero =>
      obtain rfl : y = -1 := by omega
      clear hy
      have HF := Lib.hid HI.fin
      go_wp2_with fail
      rw [← HL.out]
      refine (norm_calls _ _ l _ HB.ints (by rw [HL.out]; exact hcg) hcm).mono ?_
      rintro e w' ⟨n', rfl, hn', hz, ht, rfl⟩
      go_wp2_with fail
      go_ret
      refine ⟨_, rfl, IsNat.norm' HB hn' (by rw [HL.out]; exact hcg) hcm HI.2.2.2.2.1 hz ht ?_, Step.of⟩
      rw [show x.toNat = 30 * (x / 30).toNat + (x % 30).toNat by omega]
      exact shr_val HM.out (by omega) r1 (by rw [← HL2.out]; exact HF.out) hc0 hc1 HI.2.2.2.2.1

theorem nat_shr (a : Value) (n : Nat) (x : Int) (w : World) (ha : IsNat w a n) (hn : bl n ≤ 1099511627776) (h0 : 0 ≤ x) (hx : x ≤ 1099511627776) :
    Calls Tryd.prog 91 #[a, .int .i64 x] w (RetNat w (n / 2 ^ x.toNat)) := by
  obtain ⟨A, c, l, rfl, hc, hcm, hi, hr, ht, hv⟩ := ha
  have hl := Nat.le_trans (IsNat.len hr ht hv) hn
  by_cases q : x / 30 < l.length
  · obtain ⟨ad, rfl, hi'⟩ := hi.addr (by omega)
    exact shr_list ad c l x w hi' hc hr h0 q hl n hv
  · have hz : n / 2 ^ x.toNat = 0 := by
      apply Nat.div_eq_of_lt
      have h1 := val_lt (by omega : (0 : Int) < 1073741824) hr
      have h2 : (1073741824 : Int) ^ l.length ≤ 1073741824 ^ (x / 30).toNat := pow_le_pow (by omega) (by omega)
      have h3 := two_pow_30 (x / 30).toNat (x % 30).toNat
      have h4 := (pow_30 (s := (x % 30).toNat) (by omega)).1
      have h5 := pow_pos' (by omega : (0 : Int) < 1073741824) (x / 30).toNat
      have h6 : 1 * (1073741824 : Int) ^ (x / 30).toNat ≤ 2 ^ (x % 30).toNat * 1073741824 ^ (x / 30).toNat := Int.mul_le_mul_of_nonneg_right (by omega) (by omega)
      rw [h3, show 30 * (x / 30).toNat + (x % 30).toNat = x.toNat by omega] at h6
      have h7 : ((2 ^ x.toNat : Nat) : Int) = 2 ^ x.toNat := by simp
      omega
    have HZ := Lib.hid hz; clear hz hv hn
    go_enter Tryd.func91, Tryd.ntmps91
    go_wp2
    go_ret
    rw [HZ.out]
    exact ⟨_, rfl, IsNat.zero _, Step.of⟩

end Tt
