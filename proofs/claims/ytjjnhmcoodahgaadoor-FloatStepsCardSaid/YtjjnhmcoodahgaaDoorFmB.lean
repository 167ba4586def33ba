/- Floats by their bits: the document's laid beyond, of 64 bits. -/
import Derived.Test.YtjjnhmcoodahgaaDoorFmA
namespace Tt
open Go Go.RowKit Go.Proofs
set_option linter.unusedSimpArgs false
set_option linter.unusedVariables false
set_option maxRecDepth 100000

set_option maxHeartbeats 8000000 in
theorem rlaid_b (a : Value) (m : Nat) (neg : Bool) (e way : Int) (w : World) (ha : IsNat w a m) (hm : bl m ≤ 53) (he1 : -1074 ≤ e) (he2 : e ≤ 268435456) (he3 : 971 < e) (r : Int) (o : Bool) (hr : laidW neg m e way r o) :
    Calls Tryd.prog 78 #[wideV, .bool neg, a, .int .i64 e, .int .i64 way] w (RetV w (.tuple #[.int .u64 r, .bool o])) := by
  have ha0 := ha
  obtain ⟨A0, k0, c0, rfl⟩ := ha.slice
  obtain ⟨B, hB⟩ : ∃ B : Int, (bl m : Int) = B := ⟨_, rfl⟩
  have hB1 : B ≤ 53 := by omega
  have hbits := fun w h => nat_bits (.slice A0 k0 c0) m w h (by omega) B hB
  have hsg : ∀ (b : Int), 0 ≤ b → b < 9223372036854775808 → ∀ w, Calls Tryd.prog 48 #[wideV, .bool neg, .int .u64 b] w (RetV w (.int .u64 (sgW neg b))) := fun b h0 h1 w => wsigned_calls b neg h0 h1 w
  have hinf : ∀ w, Calls Tryd.prog 47 #[wideV, .bool neg] w (RetV w (.int .u64 (sgW neg 9218868437227405312))) := fun w => winf_calls neg w
  have htop := wtop_calls
  unfold wideV at hsg hinf htop ⊢
  have hu := Tryd.underlying31
  have HBITS := Lib.hid hbits; clear hbits
  have HSG := Lib.hid hsg; clear hsg
  obtain ⟨rfl, hr'⟩ : o = true ∧ r = sgW neg (if beyB way neg = true then 9218868437227405311 else 9218868437227405312) := by
    rcases hr with ⟨_, h1, h2⟩ | ⟨h, _⟩
    · exact ⟨h1, h2⟩
    · omega
  have HR := hr'
  clear hr hr'
  clear hB hm
  go_enter Tryd.func78, Tryd.ntmps78
  go_upto_region 1 with (fail)
  go_region_held3 (fun w' => w'.cell? ⟨w.heap.size, 0, none⟩ = some (.int .i64 53) ∧ w'.cell? ⟨w.heap.size, 1, none⟩ = some (.int .i64 (-1074)) ∧ w'.cell? ⟨w.heap.size, 2, none⟩ = some (.int .i64 971) ∧ w'.cell? ⟨w.heap.size, 3, none⟩ = some (.int .i64 52)) (go_keep) (first | (go_at_call 72; refine use (HBITS.out _ ha0.up) ?_; rintro e1 w1 ⟨rfl, rfl⟩))
  have q0 : IntKind.u64.wrap 9218868437227405312 = 9218868437227405312 := by decide
  have q1 : IntKind.u64.wrap (9218868437227405312 - 1) = 9218868437227405311 := by decide
  rcases Bool.eq_false_or_eq_true (beyB way neg) with hb | hb
  · rw [if_pos hb] at HR
    have hb' : (way = 3 ∨ (way = 1 ∧ neg = false)) ∨ (way = 2 ∧ neg = true) := by
      unfold beyB at hb
      simpa using hb
    rcases hb' with (rfl | ⟨rfl, rfl⟩) | ⟨rfl, rfl⟩
    all_goals
      clear hb
      go_upto_region 6 with (fail)
      go_region_held3 (fun w' => w'.cell? ⟨w.heap.size, 0, none⟩ = some (.int .i64 53) ∧ w'.cell? ⟨w.heap.size, 1, none⟩ = some (.int .i64 (-1074)) ∧ w'.cell? ⟨w.heap.size, 2, none⟩ = some (.int .i64 971) ∧ w'.cell? ⟨w.heap.size, 3, none⟩ = some (.int .i64 52)) (first | go_keep | exact ⟨cell_keep (by simp [*, go_sem]), cell_keep (by simp [*, go_sem]), cell_keep (by simp [*, go_sem]), cell_keep (by simp [*, go_sem])⟩) (first | (go_at_call 37; refine use (htop _) ?_; rintro e1 w1 ⟨rfl, rfl⟩) | (go_at_call 48; (try simp only [q0, q1]); refine use (HSG.out 9218868437227405311 (by omega) (by omega) _) ?_; rintro e1 w1 ⟨rfl, hs1⟩))
      go_wp2
      go_ret2
      refine ⟨congrArg (fun z => Ending.returned (Value.tuple #[Value.int .u64 z, Value.bool true])) HR.symm, Step.of⟩
  · rw [if_neg (by rw [hb]; simp)] at HR
    have h3 : (way == 3) = false := by unfold beyB at hb; simp at hb; exact beq_f hb.1.1
    by_cases h1 : way = 1
    · obtain rfl := h1
      obtain rfl : neg = true := by unfold beyB at hb; simpa using hb
      clear hb
      go_wp2_with (first | (go_at_call 47; refine use (hinf _) ?_; rintro e1 w1 ⟨rfl, hs1⟩))
      go_ret2
      refine ⟨congrArg (fun z => Ending.returned (Value.tuple #[Value.int .u64 z, Value.bool true])) HR.symm, Step.of⟩
    have h1 : (way == 1) = false := beq_f h1
    by_cases h2 : way = 2
    · obtain rfl := h2
      obtain rfl : neg = false := by unfold beyB at hb; simpa using hb
      clear hb
      go_wp2_with (first | (go_at_call 47; refine use (hinf _) ?_; rintro e1 w1 ⟨rfl, hs1⟩))
      go_ret2
      refine ⟨congrArg (fun z => Ending.returned (Value.tuple #[Value.int .u64 z, Value.bool true])) HR.symm, Step.of⟩
    have h2 : (way == 2) = false := beq_f h2
    clear hb
    go_wp2_with (first | (go_at_call 47; refine use (hinf _) ?_; rintro e1 w1 ⟨rfl, hs1⟩))
    go_ret2
    refine ⟨congrArg (fun z => Ending.returned (Value.tuple #[Value.int .u64 z, Value.bool true])) HR.symm, Step.of⟩
set_option maxHeartbeats 8000000 in
theorem rlaid_d (a : Value) (m : Nat) (neg : Bool) (e way : Int) (w : World) (ha : IsNat w a m) (hm : bl m = 54) (he1 : -1074 ≤ e) (he2 : e ≤ 268435456) (he3 : 971 < e + 1) (r : Int) (o : Bool) (hr : laidW neg (m / 2) (e + 1) way r o) :
    Calls Tryd.prog 78 #[wideV, .bool neg, a, .int .i64 e, .int .i64 way] w (RetV w (.tuple #[.int .u64 r, .bool o])) := by
  have ha0 := ha
  obtain ⟨A0, k0, c0, rfl⟩ := ha.slice
  have hbits := fun w h => nat_bits (.slice A0 k0 c0) m w h (by omega) 54 (by omega)
  have hsg : ∀ (b : Int), 0 ≤ b → b < 9223372036854775808 → ∀ w, Calls Tryd.prog 48 #[wideV, .bool neg, .int .u64 b] w (RetV w (.int .u64 (sgW neg b))) := fun b h0 h1 w => wsigned_calls b neg h0 h1 w
  have hinf : ∀ w, Calls Tryd.prog 47 #[wideV, .bool neg] w (RetV w (.int .u64 (sgW neg 9218868437227405312))) := fun w => winf_calls neg w
  have htop := wtop_calls
  unfold wideV at hsg hinf htop ⊢
  have hu := Tryd.underlying31
  have HBITS := Lib.hid hbits; clear hbits
  have HSG := Lib.hid hsg; clear hsg
  obtain ⟨rfl, hr'⟩ : o = true ∧ r = sgW neg (if beyB way neg = true then 9218868437227405311 else 9218868437227405312) := by
    rcases hr with ⟨_, h1, h2⟩ | ⟨h, _⟩
    · exact ⟨h1, h2⟩
    · omega
  have HR := hr'
  clear hr hr'
  go_enter Tryd.func78, Tryd.ntmps78
  go_upto_region 1 with (fail)
  go_region_held3 (fun w' => w'.cell? ⟨w.heap.size, 0, none⟩ = some (.int .i64 53) ∧ w'.cell? ⟨w.heap.size, 1, none⟩ = some (.int .i64 (-1074)) ∧ w'.cell? ⟨w.heap.size, 2, none⟩ = some (.int .i64 971) ∧ w'.cell? ⟨w.heap.size, 3, none⟩ = some (.int .i64 52)) (go_keep) (first | (go_at_call 72; refine use (HBITS.out _ ha0.up) ?_; rintro e1 w1 ⟨rfl, rfl⟩))
  go_upto_region 3 with (first | (go_at_call 91; refine use (nat_shr _ m 1 _ ha0.up (by omega) (by omega) (by omega)) ?_; rintro e1 w1 ⟨v1, rfl, N1, hs1⟩; have d0 : w1.cell? ⟨w.heap.size, 0, none⟩ = some (.int .i64 53) := cell_keep (h := hs1) (by simp [go_sem]); have d1 : w1.cell? ⟨w.heap.size, 1, none⟩ = some (.int .i64 (-1074)) := cell_keep (h := hs1) (by simp [go_sem]); have d2 : w1.cell? ⟨w.heap.size, 2, none⟩ = some (.int .i64 971) := cell_keep (h := hs1) (by simp [go_sem]); have d3 : w1.cell? ⟨w.heap.size, 3, none⟩ = some (.int .i64 52) := cell_keep (h := hs1) (by simp [go_sem])))
  clear hm
  have q0 : IntKind.u64.wrap 9218868437227405312 = 9218868437227405312 := by decide
  have q1 : IntKind.u64.wrap (9218868437227405312 - 1) = 9218868437227405311 := by decide
  rcases Bool.eq_false_or_eq_true (beyB way neg) with hb | hb
  · rw [if_pos hb] at HR
    have hb' : (way = 3 ∨ (way = 1 ∧ neg = false)) ∨ (way = 2 ∧ neg = true) := by
      unfold beyB at hb
      simpa using hb
    rcases hb' with (rfl | ⟨rfl, rfl⟩) | ⟨rfl, rfl⟩
    all_goals
      clear hb
      go_upto_region 6 with (fail)
      go_region_held3 (fun w' => w'.cell? ⟨w.heap.size, 0, none⟩ = some (.int .i64 53) ∧ w'.cell? ⟨w.heap.size, 1, none⟩ = some (.int .i64 (-1074)) ∧ w'.cell? ⟨w.heap.size, 2, none⟩ = some (.int .i64 971) ∧ w'.cell? ⟨w.heap.size, 3, none⟩ = some (.int .i64 52)) (first | go_keep | exact ⟨cell_keep (by simp [*, go_sem]), cell_keep (by simp [*, go_sem]), cell_keep (by simp [*, go_sem]), cell_keep (by simp [*, go_sem])⟩) (first | (go_at_call 37; refine use (htop _) ?_; rintro e1 w1 ⟨rfl, rfl⟩) | (go_at_call 48; (try simp only [q0, q1]); refine use (HSG.out 9218868437227405311 (by omega) (by omega) _) ?_; rintro e1 w1 ⟨rfl, hs1⟩))
      go_wp2
      go_ret2
      refine ⟨congrArg (fun z => Ending.returned (Value.tuple #[Value.int .u64 z, Value.bool true])) HR.symm, Step.of⟩
  · rw [if_neg (by rw [hb]; simp)] at HR
    have h3 : (way == 3) = false := by unfold beyB at hb; simp at hb; exact beq_f hb.1.1
    by_cases h1 : way = 1
    · obtain rfl := h1
      obtain rfl : neg = true := by unfold beyB at hb; simpa using hb
      clear hb
      go_wp2_with (first | (go_at_call 47; refine use (hinf _) ?_; rintro e1 w1 ⟨rfl, hs1⟩))
      go_ret2
      refine ⟨congrArg (fun z => Ending.returned (Value.tuple #[Value.int .u64 z, Value.bool true])) HR.symm, Step.of⟩
    have h1 : (way == 1) = false := beq_f h1
    by_cases h2 : way = 2
    · obtain rfl := h2
      obtain rfl : neg = false := by unfold beyB at hb; simpa using hb
      clear hb
      go_wp2_with (first | (go_at_call 47; refine use (hinf _) ?_; rintro e1 w1 ⟨rfl, hs1⟩))
      go_ret2
      refine ⟨congrArg (fun z => Ending.returned (Value.tuple #[Value.int .u64 z, Value.bool true])) HR.symm, Step.of⟩
    have h2 : (way == 2) = false := beq_f h2
    clear hb
    go_wp2_with (first | (go_at_call 47; refine use (hinf _) ?_; rintro e1 w1 ⟨rfl, hs1⟩))
    go_ret2
    refine ⟨congrArg (fun z => Ending.returned (Value.tuple #[Value.int .u64 z, Value.bool true])) HR.symm, Step.of⟩
end Tt
