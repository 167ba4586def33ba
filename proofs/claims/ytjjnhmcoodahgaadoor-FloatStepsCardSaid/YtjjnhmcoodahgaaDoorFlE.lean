/- Floats by their bits: the document's None, Infinite, signed. -/
import Derived.Test.YtjjnhmcoodahgaaDoorFlD
namespace Tt
open Go Go.RowKit Go.Proofs
set_option linter.unusedSimpArgs false
set_option linter.unusedVariables false
set_option maxRecDepth 100000

theorem or_top' (fr : Int) (i : Nat) (hi : i ≤ 63) (p : Int) (hp : p = 2 ^ i) (h0 : 0 ≤ fr) (h1 : fr < p) : bits .or .u64 fr p = fr + p := by
  subst hp
  obtain ⟨a, rfl⟩ := Int.eq_ofNat_of_zero_le h0
  have ha : a < 2 ^ i := by exact_mod_cast h1
  have hle' : 2 ^ i ≤ 2 ^ 63 := Nat.pow_le_pow_right (by omega) hi
  have e : ((2 : Int) ^ i) = ((2 ^ i : Nat) : Int) := by push_cast; rfl
  rw [e, (bits_nat .u64 64 (by decide) u64_in a _ (by omega) (by omega)).2, Nat.or_comm]
  have := Nat.two_pow_add_eq_or_of_lt ha 1
  simp only [Nat.mul_one] at this
  rw [← this]
  push_cast
  omega
set_option maxHeartbeats 4000000 in
theorem wsigned_calls (b : Int) (neg : Bool) (h0 : 0 ≤ b) (h1 : b < 9223372036854775808) (w : World) : Calls Tryd.prog 48 #[wideV, .bool neg, .int .u64 b] w (RetV w (.int .u64 (if neg = true then b + 9223372036854775808 else b))) := by
  have hs := wsign_calls
  unfold wideV at hs ⊢
  have hu := Tryd.underlying31
  have e1 : bits .or .u64 b 9223372036854775808 = b + 9223372036854775808 := or_top' b 63 (by omega) _ (by rfl) h0 h1
  cases neg
  · go_enter Tryd.func48, Tryd.ntmps48
    go_wp2
    go_ret
    exact ⟨rfl, Step.of⟩
  · go_enter Tryd.func48, Tryd.ntmps48
    go_wp2_with (first | (go_at_call 64; refine use (hs _) ?_; rintro e w1 ⟨rfl, rfl⟩))
    go_ret
    exact ⟨rfl, Step.of⟩
set_option maxHeartbeats 4000000 in
theorem wnone_calls (w : World) : Calls Tryd.prog 46 #[wideV] w (RetV w (.int .u64 9221120237041090560)) := by
  have ht := wtop_calls
  unfold wideV at ht ⊢
  have hu := Tryd.underlying31
  have e1 : bits .or .u64 9218868437227405312 2251799813685248 = 9221120237041090560 := by decide
  have q1 : IntKind.i64.wrap 51 = 51 := by decide
  have q2 : IntKind.u64.wrap 9218868437227405312 = 9218868437227405312 := by decide
  have q3 : IntKind.u64.wrap 2251799813685248 = 2251799813685248 := by decide
  go_enter Tryd.func46, Tryd.ntmps46
  go_upto_region 1 with (fail)
  go_region_held3 (fun w' => w'.cell? ⟨w.heap.size, 0, none⟩ = some (.int .i64 53) ∧ w'.cell? ⟨w.heap.size, 1, none⟩ = some (.int .i64 (-1074)) ∧ w'.cell? ⟨w.heap.size, 2, none⟩ = some (.int .i64 971) ∧ w'.cell? ⟨w.heap.size, 3, none⟩ = some (.int .i64 52)) (go_keep) (first | (go_at_call 37; refine use (ht _) ?_; rintro e w1 ⟨rfl, rfl⟩))
  go_wp2
  go_ret
  exact ⟨rfl, Step.of⟩
set_option maxHeartbeats 4000000 in
theorem winf_calls (neg : Bool) (w : World) : Calls Tryd.prog 47 #[wideV, .bool neg] w (RetV w (.int .u64 (if neg = true then 18442240474082181120 else 9218868437227405312))) := by
  have ht := wtop_calls
  have hs := fun w => wsigned_calls 9218868437227405312 neg (by omega) (by omega) w
  unfold wideV at ht hs ⊢
  have hu := Tryd.underlying31
  have hv : (if neg = true then (9218868437227405312 : Int) + 9223372036854775808 else 9218868437227405312) = (if neg = true then 18442240474082181120 else 9218868437227405312) := by cases neg <;> rfl
  rw [hv] at hs
  generalize (if neg = true then (18442240474082181120 : Int) else 9218868437227405312) = r at hs ⊢
  clear hv
  have q2 : IntKind.u64.wrap 9218868437227405312 = 9218868437227405312 := by decide
  go_enter Tryd.func47, Tryd.ntmps47
  go_upto_region 1 with (fail)
  go_region_held3 (fun w' => w'.cell? ⟨w.heap.size, 0, none⟩ = some (.int .i64 53) ∧ w'.cell? ⟨w.heap.size, 1, none⟩ = some (.int .i64 (-1074)) ∧ w'.cell? ⟨w.heap.size, 2, none⟩ = some (.int .i64 971) ∧ w'.cell? ⟨w.heap.size, 3, none⟩ = some (.int .i64 52)) (first | go_keep | exact ⟨cell_keep (by simp [*, go_sem]), cell_keep (by simp [*, go_sem]), cell_keep (by simp [*, go_sem]), cell_keep (by simp [*, go_sem])⟩) (first | (go_at_call 37; refine use (ht _) ?_; rintro e w1 ⟨rfl, rfl⟩) | (go_at_call 48; refine use (hs _) ?_; rintro e w2 ⟨rfl, hs2⟩))
  go_wp2
  go_ret
  exact ⟨rfl, Step.of⟩
set_option maxHeartbeats 4000000 in
theorem ssigned_calls (b : Int) (neg : Bool) (h0 : 0 ≤ b) (h1 : b < 2147483648) (w : World) : Calls Tryd.prog 48 #[smallV, .bool neg, .int .u64 b] w (RetV w (.int .u64 (if neg = true then b + 2147483648 else b))) := by
  have hs := ssign_calls
  unfold smallV at hs ⊢
  have hu := Tryd.underlying31
  have e1 : bits .or .u64 b 2147483648 = b + 2147483648 := or_top' b 31 (by omega) _ (by rfl) h0 h1
  cases neg
  · go_enter Tryd.func48, Tryd.ntmps48
    go_wp2
    go_ret
    exact ⟨rfl, Step.of⟩
  · go_enter Tryd.func48, Tryd.ntmps48
    go_wp2_with (first | (go_at_call 64; refine use (hs _) ?_; rintro e w1 ⟨rfl, rfl⟩))
    go_ret
    exact ⟨rfl, Step.of⟩
set_option maxHeartbeats 4000000 in
theorem snone_calls (w : World) : Calls Tryd.prog 46 #[smallV] w (RetV w (.int .u64 2143289344)) := by
  have ht := stop_calls
  unfold smallV at ht ⊢
  have hu := Tryd.underlying31
  have e1 : bits .or .u64 2139095040 4194304 = 2143289344 := by decide
  have q1 : IntKind.i64.wrap 22 = 22 := by decide
  have q2 : IntKind.u64.wrap 2139095040 = 2139095040 := by decide
  have q3 : IntKind.u64.wrap 4194304 = 4194304 := by decide
  go_enter Tryd.func46, Tryd.ntmps46
  go_upto_region 1 with (fail)
  go_region_held3 (fun w' => w'.cell? ⟨w.heap.size, 0, none⟩ = some (.int .i64 24) ∧ w'.cell? ⟨w.heap.size, 1, none⟩ = some (.int .i64 (-149)) ∧ w'.cell? ⟨w.heap.size, 2, none⟩ = some (.int .i64 104) ∧ w'.cell? ⟨w.heap.size, 3, none⟩ = some (.int .i64 23)) (go_keep) (first | (go_at_call 37; refine use (ht _) ?_; rintro e w1 ⟨rfl, rfl⟩))
  go_wp2
  go_ret
  exact ⟨rfl, Step.of⟩
set_option maxHeartbeats 4000000 in
theorem sinf_calls (neg : Bool) (w : World) : Calls Tryd.prog 47 #[smallV, .bool neg] w (RetV w (.int .u64 (if neg = true then 4286578688 else 2139095040))) := by
  have ht := stop_calls
  have hs := fun w => ssigned_calls 2139095040 neg (by omega) (by omega) w
  unfold smallV at ht hs ⊢
  have hu := Tryd.underlying31
  have hv : (if neg = true then (2139095040 : Int) + 2147483648 else 2139095040) = (if neg = true then 4286578688 else 2139095040) := by cases neg <;> rfl
  rw [hv] at hs
  generalize (if neg = true then (4286578688 : Int) else 2139095040) = r at hs ⊢
  clear hv
  have q2 : IntKind.u64.wrap 2139095040 = 2139095040 := by decide
  go_enter Tryd.func47, Tryd.ntmps47
  go_upto_region 1 with (fail)
  go_region_held3 (fun w' => w'.cell? ⟨w.heap.size, 0, none⟩ = some (.int .i64 24) ∧ w'.cell? ⟨w.heap.size, 1, none⟩ = some (.int .i64 (-149)) ∧ w'.cell? ⟨w.heap.size, 2, none⟩ = some (.int .i64 104) ∧ w'.cell? ⟨w.heap.size, 3, none⟩ = some (.int .i64 23)) (first | go_keep | exact ⟨cell_keep (by simp [*, go_sem]), cell_keep (by simp [*, go_sem]), cell_keep (by simp [*, go_sem]), cell_keep (by simp [*, go_sem])⟩) (first | (go_at_call 37; refine use (ht _) ?_; rintro e w1 ⟨rfl, rfl⟩) | (go_at_call 48; refine use (hs _) ?_; rintro e w2 ⟨rfl, hs2⟩))
  go_wp2
  go_ret
  exact ⟨rfl, Step.of⟩
end Tt
