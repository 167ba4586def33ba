/- Floats by their bits: the document's laid from above, of 64 bits. -/
import Derived.Test.YtjjnhmcoodahgaaDoorFmB
namespace Tt
open Go Go.RowKit Go.Proofs
set_option linter.unusedSimpArgs false
set_option linter.unusedVariables false
set_option maxRecDepth 100000

set_option maxHeartbeats 8000000 in
theorem rlaid_c (a : Value) (m : Nat) (neg : Bool) (e way : Int) (w : World) (ha : IsNat w a m) (hm : bl m = 54) (he1 : -1074 ≤ e) (he2 : e ≤ 268435456) (he3 : e + 1 ≤ 971) (r : Int) (o : Bool) (hr : laidW neg (m / 2) (e + 1) way r o) :
    Calls Tryd.prog 78 #[wideV, .bool neg, a, .int .i64 e, .int .i64 way] w (RetV w (.tuple #[.int .u64 r, .bool o])) := by
  have ha0 := ha
  obtain ⟨A0, k0, c0, rfl⟩ := ha.slice
  have hbits := fun w h => nat_bits (.slice A0 k0 c0) m w h (by omega) 54 (by omega)
  have hsg : ∀ (b : Int), 0 ≤ b → b < 9223372036854775808 → ∀ w, Calls Tryd.prog 48 #[wideV, .bool neg, .int .u64 b] w (RetV w (.int .u64 (sgW neg b))) := fun b h0 h1 w => wsigned_calls b neg h0 h1 w
  have hinf : ∀ w, Calls Tryd.prog 47 #[wideV, .bool neg] w (RetV w (.int .u64 (sgW neg 9218868437227405312))) := fun w => winf_calls neg w
  have htop := wtop_calls
  unfold wideV at hsg hinf htop ⊢
  have hu := Tryd.underlying31
  have HBITS := Lib.hid hbits; clear hbits
  have HSG := Lib.hid hsg; clear hsg
  obtain ⟨rfl, hr'⟩ : o = false ∧ r = sgW neg (if bl (m / 2) = 53 then ((m / 2 : Nat) : Int) - 4503599627370496 + (e + 1 + 1075) * 4503599627370496 else ((m / 2 : Nat) : Int)) := by
    rcases hr with ⟨h, _⟩ | ⟨_, h1, h2⟩
    · omega
    · exact ⟨h1, h2⟩
  have h53 : bl (m / 2) = 53 := by
    have h := bl_half (n := m) (by refine Nat.pos_of_ne_zero fun h0 => ?_; rw [h0, bl_zero] at hm; omega)
    omega
  rw [if_pos h53] at hr'
  have HR := Lib.hid hr'; clear hr hr'
  go_enter Tryd.func78, Tryd.ntmps78
  go_upto_region 1 with (fail)
  go_region_held3 (fun w' => w'.cell? ⟨w.heap.size, 0, none⟩ = some (.int .i64 53) ∧ w'.cell? ⟨w.heap.size, 1, none⟩ = some (.int .i64 (-1074)) ∧ w'.cell? ⟨w.heap.size, 2, none⟩ = some (.int .i64 971) ∧ w'.cell? ⟨w.heap.size, 3, none⟩ = some (.int .i64 52)) (go_keep) (first | (go_at_call 72; refine use (HBITS.out _ ha0.up) ?_; rintro e1 w1 ⟨rfl, rfl⟩))
  go_upto_region 3 with (first | (go_at_call 91; refine use (nat_shr _ m 1 _ ha0.up (by omega) (by omega) (by omega)) ?_; rintro e1 w1 ⟨v1, rfl, N1, hs1⟩; have d0 : w1.cell? ⟨w.heap.size, 0, none⟩ = some (.int .i64 53) := cell_keep (h := hs1) (by simp [go_sem]); have d1 : w1.cell? ⟨w.heap.size, 1, none⟩ = some (.int .i64 (-1074)) := cell_keep (h := hs1) (by simp [go_sem]); have d2 : w1.cell? ⟨w.heap.size, 2, none⟩ = some (.int .i64 971) := cell_keep (h := hs1) (by simp [go_sem]); have d3 : w1.cell? ⟨w.heap.size, 3, none⟩ = some (.int .i64 52) := cell_keep (h := hs1) (by simp [go_sem])))
  have N1 : IsNat w1 v1 (m / 2) := by simpa using N1
  have ha1 := N1
  obtain ⟨A, c, l, rfl, hc, hcm, hi, hrg, ht, hv⟩ := N1
  have hbits := fun w h => nat_bits (.slice A l.length c) (m / 2) w h (by omega) 53 (by omega)
  have hm53 : ((m / 2 : Nat) : Int) < 9007199254740992 ∧ 4503599627370496 ≤ ((m / 2 : Nat) : Int) := by
    have h1 := bl_le.1 (Nat.le_of_eq h53)
    have : ¬ m / 2 < 2 ^ 52 := fun k => by have := bl_le.2 k; omega
    have e : (2 : Nat) ^ 52 = 4503599627370496 := by decide
    have e2 : (2 : Nat) ^ 53 = 9007199254740992 := by decide
    omega
  have hvb : ∀ i, 0 ≤ val 1073741824 (l.drop i) ∧ val 1073741824 (l.drop i) < 9007199254740992 := by
    intro i
    refine ⟨val_nonneg (by omega) (hrg.drop i), Int.lt_of_le_of_lt ?_ hm53.1⟩
    rw [← hv]
    exact val_drop_le hrg i
  generalize hq : ((m / 2 : Nat) : Int) = M at *
  have hM2 := hm53.2
  have hM3 := hm53.1
  clear hm53
  have VB := Lib.hid hvb; clear hvb
  have HV := Lib.hid hv; clear hv
  have RG := Lib.hid hrg; clear hrg
  have INT := Lib.hid hi; clear hi ht
  have HBITS2 := Lib.hid hbits; clear hbits
  clear hm h53 hq
  go_wp2
  go_loopw [12, 13] (fun v12 v13 wr => ∃ (b : Int) (i : Nat), v12 = .int .u64 b ∧ v13 = .int .i64 (i - 1) ∧ i ≤ l.length ∧ b = val 1073741824 (l.drop i) ∧ wr = w1) (fun _ v _ => (intOf v + 1).toNat)
  case atStart => exact ⟨0, l.length, rfl, rfl, Nat.le_refl _, by simp [val], rfl⟩
  case round =>
    obtain ⟨b, i, rfl, rfl, hi, hb, rfl⟩ := hrel
    have hbr := VB.out i
    rw [← hb] at hbr
    by_cases h0 : i = 0
    · subst h0
      have hbm : b = M := by rw [hb, List.drop_zero, HV.out]
      subst hbm
      clear hb hbr
      have z : ((0 : Nat) : Int) - 1 = -1 := rfl
      rw [z]
      go_upto_region 13 with (fail)
      go_region_held3 (fun w' => w'.cell? ⟨w.heap.size, 0, none⟩ = some (.int .i64 53) ∧ w'.cell? ⟨w.heap.size, 1, none⟩ = some (.int .i64 (-1074)) ∧ w'.cell? ⟨w.heap.size, 2, none⟩ = some (.int .i64 971) ∧ w'.cell? ⟨w.heap.size, 3, none⟩ = some (.int .i64 52)) (first | go_keep | exact ⟨cell_keep (by simp [*, go_sem]), cell_keep (by simp [*, go_sem]), cell_keep (by simp [*, go_sem]), cell_keep (by simp [*, go_sem])⟩) (first | (go_at_call 72; refine use (HBITS2.out _ (ha1.up)) ?_; rintro e1 w1 ⟨rfl, rfl⟩))
      go_wp2_with fail
      go_quiet (fail)
      go_wp2_with (first | (go_at_call 48; refine use (HSG.out _ (by omega) (by omega) _) ?_; rintro e1 w1 ⟨rfl, hs1⟩))
      go_ret2
      refine ⟨congrArg (fun z => Ending.returned (Value.tuple #[Value.int .u64 z, Value.bool false])) ?_, Step.of⟩
      rw [HR.out]
      congr 1
      omega
    · obtain ⟨j, rfl⟩ : ∃ j, i = j + 1 := ⟨i - 1, by omega⟩
      have hd := drop_more 1073741824 l j (by omega)
      rw [← hb] at hd
      have hr2 := VB.out j
      rw [hd] at hr2
      have hrj := RG.out j (by omega)
      obtain ⟨ad, hA, hcell⟩ := INT.out j (by omega)
      have hcell := hcell
      have hor : bits .or .u64 (b * 1073741824) (rd l j) = b * 1073741824 + rd l j := u64_join 30 _ _ (by omega) (by omega) (by omega) (by omega) (by omega) (by omega)
      subst hA
      have HB := Lib.hid hb; clear hb
      have HD := Lib.hid hd; clear hd
      generalize rd l j = y at *
      go_wp2
      exact ⟨⟨_, j, rfl, by simp, by omega, by rw [HD.out]; omega, by trivial⟩, by simp [intOf]⟩
end Tt
