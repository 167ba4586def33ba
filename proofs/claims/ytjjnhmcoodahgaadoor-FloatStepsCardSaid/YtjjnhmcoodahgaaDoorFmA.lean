/- Floats by their bits: the document's laid, of 64 bits. -/
import Derived.Test.YtjjnhmcoodahgaaDoorFlX
namespace Tt
open Go Go.RowKit Go.Proofs
set_option linter.unusedSimpArgs false
set_option linter.unusedVariables false
set_option maxRecDepth 100000

/-- Beyond the greatest finite one: is that taken? -/
def beyB (way : Int) (neg : Bool) : Bool := (way == 3) || (way == 1 && !neg) || (way == 2 && neg)
def sgW (neg : Bool) (b : Int) : Int := if neg = true then b + 9223372036854775808 else b
def laidW (neg : Bool) (m : Nat) (e way : Int) (r : Int) (o : Bool) : Prop :=
  (971 < e ∧ o = true ∧ r = sgW neg (if beyB way neg = true then 9218868437227405311 else 9218868437227405312)) ∨
  (e ≤ 971 ∧ o = false ∧ r = sgW neg (if bl m = 53 then (m : Int) - 4503599627370496 + (e + 1075) * 4503599627370496 else m))
theorem val_drop_le {l : List Int} (h : Rng 1073741824 l) (i : Nat) : val 1073741824 (l.drop i) ≤ val 1073741824 l := by
  have e := val_append 1073741824 (l.take i) (l.drop i)
  rw [List.take_append_drop] at e
  have h1 := val_nonneg (by omega : (0 : Int) < 1073741824) (h.take i)
  have h2 := val_nonneg (by omega : (0 : Int) < 1073741824) (h.drop i)
  have h3 : (1 : Int) ≤ 1073741824 ^ (l.take i).length := Int.pow_pos (by omega)
  have h4 := Int.mul_le_mul_of_nonneg_right h3 h2
  omega
set_option maxHeartbeats 8000000 in
theorem rlaid_a (a : Value) (m : Nat) (neg : Bool) (e way : Int) (w : World) (ha : IsNat w a m) (hm : bl m ≤ 53) (he1 : -1074 ≤ e) (he2 : e ≤ 268435456) (he3 : e ≤ 971) (r : Int) (o : Bool) (hr : laidW neg m e way r o) :
    Calls Tryd.prog 78 #[wideV, .bool neg, a, .int .i64 e, .int .i64 way] w (RetV w (.tuple #[.int .u64 r, .bool o])) := by
  have ha0 := ha
  obtain ⟨A, c, l, rfl, hc, hcm, hi, hrg, ht, hv⟩ := ha
  obtain ⟨B, hB⟩ : ∃ B : Int, (bl m : Int) = B := ⟨_, rfl⟩
  have hB1 : B ≤ 53 := by omega
  have hbits := fun w h => nat_bits (.slice A l.length c) m w h (by omega) B hB
  have hsg : ∀ (b : Int), 0 ≤ b → b < 9223372036854775808 → ∀ w, Calls Tryd.prog 48 #[wideV, .bool neg, .int .u64 b] w (RetV w (.int .u64 (sgW neg b))) := fun b h0 h1 w => wsigned_calls b neg h0 h1 w
  unfold wideV at hsg ⊢
  have hu := Tryd.underlying31
  obtain ⟨_, rfl, hr'⟩ : 0 = 0 ∧ o = false ∧ r = sgW neg (if bl m = 53 then (m : Int) - 4503599627370496 + (e + 1075) * 4503599627370496 else m) := by
    rcases hr with ⟨h, _⟩ | ⟨_, h1, h2⟩
    · omega
    · exact ⟨rfl, h1, h2⟩
  have hm53 : (m : Int) < 9007199254740992 := by have := bl_le.1 hm; omega
  have hvb : ∀ i, 0 ≤ val 1073741824 (l.drop i) ∧ val 1073741824 (l.drop i) < 9007199254740992 := by
    intro i
    refine ⟨val_nonneg (by omega) (hrg.drop i), Int.lt_of_le_of_lt ?_ hm53⟩
    rw [← hv]
    exact val_drop_le hrg i
  have VB := Lib.hid hvb; clear hvb hm
  have HB := Lib.hid hB; clear hB
  clear hm53
  have HV := Lib.hid hv; clear hv
  have RG := Lib.hid hrg; clear hrg
  have INT := Lib.hid hi; clear hi ht
  have HR := Lib.hid hr'; clear hr hr'
  have HBITS := Lib.hid hbits; clear hbits
  have HSG := Lib.hid hsg; clear hsg
  go_enter Tryd.func78, Tryd.ntmps78
  go_upto_region 1 with (fail)
  go_region_held3 (fun w' => w'.cell? ⟨w.heap.size, 0, none⟩ = some (.int .i64 53) ∧ w'.cell? ⟨w.heap.size, 1, none⟩ = some (.int .i64 (-1074)) ∧ w'.cell? ⟨w.heap.size, 2, none⟩ = some (.int .i64 971) ∧ w'.cell? ⟨w.heap.size, 3, none⟩ = some (.int .i64 52)) (go_keep) (first | (go_at_call 72; refine use (HBITS.out _ ha0.up) ?_; rintro e1 w1 ⟨rfl, rfl⟩))
  go_wp2
  go_loopw [12, 13] (fun v12 v13 wr => ∃ (b : Int) (i : Nat), v12 = .int .u64 b ∧ v13 = .int .i64 (i - 1) ∧ i ≤ l.length ∧ b = val 1073741824 (l.drop i) ∧ wr = (w.alloc (.cells #[.int .i64 53, .int .i64 (-1074), .int .i64 971, .int .i64 52] 31)).drew) (fun _ v _ => (intOf v + 1).toNat)
  case atStart => exact ⟨0, l.length, rfl, rfl, Nat.le_refl _, by simp [val], rfl⟩
  case round =>
    obtain ⟨b, i, rfl, rfl, hi, hb, rfl⟩ := hrel
    have hbr := VB.out i
    rw [← hb] at hbr
    by_cases h0 : i = 0
    · subst h0
      have hbm : b = (m : Int) := by rw [hb, List.drop_zero, HV.out]
      subst hbm
      clear hb hbr
      have hM := VB.out 0
      rw [List.drop_zero, HV.out] at hM
      have hM2 : bl m = 53 → 4503599627370496 ≤ (m : Int) := fun h => by
        have : ¬ m < 2 ^ 52 := fun k => by have := bl_le.2 k; omega
        have e : (2 : Nat) ^ 52 = 4503599627370496 := by decide
        omega
      have HBM := HB.out
      have z : ((0 : Nat) : Int) - 1 = -1 := rfl
      rw [z]
      generalize hq : (m : Int) = M at *
      clear hq z
      by_cases h53 : bl m = 53
      · have hM2 := hM2 h53
        obtain rfl : B = 53 := by omega
        have HR := HR.out
        rw [if_pos h53] at HR
        clear h53 hB1
        go_upto_region 13 with (fail)
        go_region_held3 (fun w' => w'.cell? ⟨w.heap.size, 0, none⟩ = some (.int .i64 53) ∧ w'.cell? ⟨w.heap.size, 1, none⟩ = some (.int .i64 (-1074)) ∧ w'.cell? ⟨w.heap.size, 2, none⟩ = some (.int .i64 971) ∧ w'.cell? ⟨w.heap.size, 3, none⟩ = some (.int .i64 52)) (go_keep) (first | (go_at_call 72; refine use (HBITS.out _ (ha0.up)) ?_; rintro e1 w1 ⟨rfl, rfl⟩))
        go_wp2_with fail
        go_quiet (fail)
        go_wp2_with (first | (go_at_call 48; refine use (HSG.out _ (by omega) (by omega) _) ?_; rintro e1 w1 ⟨rfl, hs1⟩))
        go_ret2
        refine ⟨congrArg (fun z => Ending.returned (Value.tuple #[Value.int .u64 z, Value.bool false])) ?_, Step.of⟩
        rw [HR]
        congr 1
        omega
      · have HR := HR.out
        rw [if_neg h53] at HR
        have f : (B == 53) = false := beq_f (by omega)
        clear h53 hM2
        go_upto_region 13 with (fail)
        go_region_held3 (fun w' => w'.cell? ⟨w.heap.size, 0, none⟩ = some (.int .i64 53) ∧ w'.cell? ⟨w.heap.size, 1, none⟩ = some (.int .i64 (-1074)) ∧ w'.cell? ⟨w.heap.size, 2, none⟩ = some (.int .i64 971) ∧ w'.cell? ⟨w.heap.size, 3, none⟩ = some (.int .i64 52)) (go_keep) (first | (go_at_call 72; refine use (HBITS.out _ (ha0.up)) ?_; rintro e1 w1 ⟨rfl, rfl⟩))
        go_wp2_with (first | (go_at_call 48; refine use (HSG.out _ (by omega) (by omega) _) ?_; rintro e1 w1 ⟨rfl, hs1⟩))
        go_ret2
        refine ⟨congrArg (fun z => Ending.returned (Value.tuple #[Value.int .u64 z, Value.bool false])) ?_, Step.of⟩
        exact HR.symm
    · obtain ⟨j, rfl⟩ : ∃ j, i = j + 1 := ⟨i - 1, by omega⟩
      have hd := drop_more 1073741824 l j (by omega)
      rw [← hb] at hd
      have hr2 := VB.out j
      rw [hd] at hr2
      have hrj := RG.out j (by omega)
      obtain ⟨ad, hA, hcell⟩ := INT.out j (by omega)
      have hcell := Ext.cell (a := w) (b := (w.alloc (.cells #[.int .i64 53, .int .i64 (-1074), .int .i64 971, .int .i64 52] 31)).drew) inferInstance hcell
      have hor : bits .or .u64 (b * 1073741824) (rd l j) = b * 1073741824 + rd l j := u64_join 30 _ _ (by omega) (by omega) (by omega) (by omega) (by omega) (by omega)
      subst hA
      have HB := Lib.hid hb; clear hb
      have HD := Lib.hid hd; clear hd
      generalize rd l j = y at *
      go_wp2
      exact ⟨⟨_, j, rfl, by simp, by omega, by rw [HD.out]; omega, by trivial⟩, by simp [intOf]⟩
end Tt
