/- Floats by their bits: the document's Finite, IsNone; the law's is. -/
import Derived.Test.YtjjnhmcoodahgaaDoorFlK
namespace Tt
open Go Go.RowKit Go.Proofs
set_option linter.unusedSimpArgs false
set_option linter.unusedVariables false
set_option maxRecDepth 100000

set_option maxHeartbeats 4000000 in
theorem wfinite_calls (b : Int) (h0 : 0 ≤ b) (h1 : b < 18446744073709551616) (w : World) (r : Bool) (hr : (b / 4503599627370496 % 2048 != 2047) = r) : Calls Tryd.prog 55 #[wideV, .int .u64 b] w (RetV w (.bool r)) := by
  have ht := wtop_calls
  unfold wideV at ht ⊢
  have hu := Tryd.underlying31
  have e0 : bits .and .u64 (b / 4503599627370496) 2047 = b / 4503599627370496 % 2048 := u64_mask 11 (by omega) _ _ (by omega) (by omega) rfl
  have HR := Lib.hid hr; clear hr
  go_enter Tryd.func55, Tryd.ntmps55
  go_upto_region 1 with (fail)
  go_region_held3 (fun w' => w'.cell? ⟨w.heap.size, 0, none⟩ = some (.int .i64 53) ∧ w'.cell? ⟨w.heap.size, 1, none⟩ = some (.int .i64 (-1074)) ∧ w'.cell? ⟨w.heap.size, 2, none⟩ = some (.int .i64 971) ∧ w'.cell? ⟨w.heap.size, 3, none⟩ = some (.int .i64 52)) (go_keep) (first | (go_at_call 37; refine use (ht _) ?_; rintro e w1 ⟨rfl, rfl⟩))
  all_goals go_wp2
  all_goals (go_ret; exact ⟨congrArg (fun z => Ending.returned (Value.bool z)) HR.out, Step.of⟩)
set_option maxHeartbeats 4000000 in
theorem sfinite_calls (b : Int) (h0 : 0 ≤ b) (h1 : b < 4294967296) (w : World) (r : Bool) (hr : (b / 8388608 % 256 != 255) = r) : Calls Tryd.prog 55 #[smallV, .int .u64 b] w (RetV w (.bool r)) := by
  have ht := stop_calls
  unfold smallV at ht ⊢
  have hu := Tryd.underlying31
  have e0 : bits .and .u64 (b / 8388608) 255 = b / 8388608 % 256 := u64_mask 8 (by omega) _ _ (by omega) (by omega) rfl
  have HR := Lib.hid hr; clear hr
  go_enter Tryd.func55, Tryd.ntmps55
  go_upto_region 1 with (fail)
  go_region_held3 (fun w' => w'.cell? ⟨w.heap.size, 0, none⟩ = some (.int .i64 24) ∧ w'.cell? ⟨w.heap.size, 1, none⟩ = some (.int .i64 (-149)) ∧ w'.cell? ⟨w.heap.size, 2, none⟩ = some (.int .i64 104) ∧ w'.cell? ⟨w.heap.size, 3, none⟩ = some (.int .i64 23)) (go_keep) (first | (go_at_call 37; refine use (ht _) ?_; rintro e w1 ⟨rfl, rfl⟩))
  all_goals go_wp2
  all_goals (go_ret; exact ⟨congrArg (fun z => Ending.returned (Value.bool z)) HR.out, Step.of⟩)
set_option maxHeartbeats 4000000 in
theorem wisnone_calls (b : Int) (h0 : 0 ≤ b) (h1 : b < 18446744073709551616) (w : World) (r : Bool) (hr : (b / 4503599627370496 % 2048 == 2047 && b % 4503599627370496 != 0) = r) : Calls Tryd.prog 49 #[wideV, .int .u64 b] w (RetV w (.bool r)) := by
  have hf := fun w r h => wfinite_calls b h0 h1 w r h
  unfold wideV at hf ⊢
  have hu := Tryd.underlying31
  have e1 : bits .and .u64 b 4503599627370495 = b % 4503599627370496 := u64_mask 52 (by omega) _ _ (by omega) (by omega) rfl
  rcases Bool.eq_false_or_eq_true (b / 4503599627370496 % 2048 == 2047) with c | c
  · have hf' := fun w => hf w false (by simp only [bne, c, Bool.not_true])
    clear hf
    rw [c, Bool.true_and] at hr
    have HR := Lib.hid hr; clear hr c
    go_enter Tryd.func49, Tryd.ntmps49
    go_wp2_with (first | (go_at_call 55; refine use (hf' _) ?_; rintro e w1 ⟨rfl, hs1⟩; have d3 := box_keep (w := w) (w1 := w1) (cs := #[.int .i64 53, .int .i64 (-1074), .int .i64 971, .int .i64 52]) 3 (v := .int .i64 52) rfl))
    all_goals (go_ret; exact ⟨congrArg (fun z => Ending.returned (Value.bool z)) HR.out, Step.of⟩)
  · have hf' := fun w => hf w true (by simp only [bne, c, Bool.not_false])
    clear hf
    rw [c, Bool.false_and] at hr
    obtain rfl := hr
    clear c
    go_enter Tryd.func49, Tryd.ntmps49
    go_wp2_with (first | (go_at_call 55; refine use (hf' _) ?_; rintro e w1 ⟨rfl, hs1⟩))
    go_ret
    exact ⟨rfl, Step.of⟩
set_option maxHeartbeats 4000000 in
theorem sisnone_calls (b : Int) (h0 : 0 ≤ b) (h1 : b < 4294967296) (w : World) (r : Bool) (hr : (b / 8388608 % 256 == 255 && b % 8388608 != 0) = r) : Calls Tryd.prog 49 #[smallV, .int .u64 b] w (RetV w (.bool r)) := by
  have hf := fun w r h => sfinite_calls b h0 h1 w r h
  unfold smallV at hf ⊢
  have hu := Tryd.underlying31
  have e1 : bits .and .u64 b 8388607 = b % 8388608 := u64_mask 23 (by omega) _ _ (by omega) (by omega) rfl
  rcases Bool.eq_false_or_eq_true (b / 8388608 % 256 == 255) with c | c
  · have hf' := fun w => hf w false (by simp only [bne, c, Bool.not_true])
    clear hf
    rw [c, Bool.true_and] at hr
    have HR := Lib.hid hr; clear hr c
    go_enter Tryd.func49, Tryd.ntmps49
    go_wp2_with (first | (go_at_call 55; refine use (hf' _) ?_; rintro e w1 ⟨rfl, hs1⟩; have d3 := box_keep (w := w) (w1 := w1) (cs := #[.int .i64 24, .int .i64 (-149), .int .i64 104, .int .i64 23]) 3 (v := .int .i64 23) rfl))
    all_goals (go_ret; exact ⟨congrArg (fun z => Ending.returned (Value.bool z)) HR.out, Step.of⟩)
  · have hf' := fun w => hf w true (by simp only [bne, c, Bool.not_false])
    clear hf
    rw [c, Bool.false_and] at hr
    obtain rfl := hr
    clear c
    go_enter Tryd.func49, Tryd.ntmps49
    go_wp2_with (first | (go_at_call 55; refine use (hf' _) ?_; rintro e w1 ⟨rfl, hs1⟩))
    go_ret
    exact ⟨rfl, Step.of⟩
end Tt
