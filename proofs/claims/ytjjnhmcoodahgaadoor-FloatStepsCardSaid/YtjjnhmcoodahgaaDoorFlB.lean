/- Floats by their bits: the parts. -/
import Derived.Test.YtjjnhmcoodahgaaDoorFlA
namespace Tt
open Go Go.RowKit Go.Proofs
set_option linter.unusedSimpArgs false
set_option linter.unusedVariables false
set_option maxRecDepth 100000

theorem wneg_calls (b : Int) (h0 : 0 ≤ b) (h1 : b < 18446744073709551616) (w : World) (r : Bool) (hr : decide (9223372036854775808 ≤ b) = r) : Calls Tryd.prog 38 #[wideV, .int .u64 b] w (fun e w' => e = .returned (.bool r) ∧ (w.alloc (.cells #[.int .i64 53, .int .i64 (-1074), .int .i64 971, .int .i64 52] 31)).alloc (.cells #[.int .i64 53, .int .i64 (-1074), .int .i64 971, .int .i64 52] 31) = w') := by
  have hs := wsign_calls
  unfold wideV at hs ⊢
  have hu := Tryd.underlying31
  go_enter Tryd.func38, Tryd.ntmps38
  go_wp2_with (first | (go_at_call 64; refine use (hs _) ?_; rintro e w1 ⟨rfl, rfl⟩))
  have he : bits .and .u64 (b / 9223372036854775808) 1 = (b / 9223372036854775808) % 2 ^ 1 := u64_mask 1 (by omega) _ _ (by omega) (by omega) rfl
  rw [he]
  go_ret
  refine ⟨?_, rfl⟩
  rw [← hr]
  by_cases h : 9223372036854775808 ≤ b
  · have : b / 9223372036854775808 = 1 := by omega
    simp [h, this]
  · have : b / 9223372036854775808 = 0 := by omega
    simp [h, this]
theorem sneg_calls (b : Int) (h0 : 0 ≤ b) (h1 : b < 4294967296) (w : World) (r : Bool) (hr : decide (2147483648 ≤ b) = r) : Calls Tryd.prog 38 #[smallV, .int .u64 b] w (fun e w' => e = .returned (.bool r) ∧ (w.alloc (.cells #[.int .i64 24, .int .i64 (-149), .int .i64 104, .int .i64 23] 31)).alloc (.cells #[.int .i64 24, .int .i64 (-149), .int .i64 104, .int .i64 23] 31) = w') := by
  have hs := ssign_calls
  unfold smallV at hs ⊢
  have hu := Tryd.underlying31
  go_enter Tryd.func38, Tryd.ntmps38
  go_wp2_with (first | (go_at_call 64; refine use (hs _) ?_; rintro e w1 ⟨rfl, rfl⟩))
  have he : bits .and .u64 (b / 2147483648) 1 = (b / 2147483648) % 2 ^ 1 := u64_mask 1 (by omega) _ _ (by omega) (by omega) rfl
  rw [he]
  go_ret
  refine ⟨?_, rfl⟩
  rw [← hr]
  by_cases h : 2147483648 ≤ b
  · have : b / 2147483648 = 1 := by omega
    simp [h, this]
  · have : b / 2147483648 = 0 := by omega
    simp [h, this]
/-- The parts by exponent and fraction. -/
def partsC (all one L ex fr : Int) (neg : Bool) : Array Value :=
  if ex = all ∧ fr ≠ 0 then #[.int .i64 4, .bool false, .int .u64 0, .int .i64 0]
  else if ex = all then #[.int .i64 3, .bool neg, .int .u64 0, .int .i64 0]
  else if ex = 0 ∧ fr = 0 then #[.int .i64 0, .bool neg, .int .u64 0, .int .i64 0]
  else if ex = 0 then #[.int .i64 1, .bool neg, .int .u64 fr, .int .i64 L]
  else #[.int .i64 2, .bool neg, .int .u64 (fr + one), .int .i64 (L + ex - 1)]
/-- Which of the five it is. -/
theorem parts_five (all one L ex fr : Int) (neg : Bool) :
    (ex = all ∧ fr ≠ 0 ∧ partsC all one L ex fr neg = #[.int .i64 4, .bool false, .int .u64 0, .int .i64 0]) ∨
    (ex = all ∧ fr = 0 ∧ partsC all one L ex fr neg = #[.int .i64 3, .bool neg, .int .u64 0, .int .i64 0]) ∨
    (ex ≠ all ∧ ex = 0 ∧ fr = 0 ∧ partsC all one L ex fr neg = #[.int .i64 0, .bool neg, .int .u64 0, .int .i64 0]) ∨
    (ex ≠ all ∧ ex = 0 ∧ fr ≠ 0 ∧ partsC all one L ex fr neg = #[.int .i64 1, .bool neg, .int .u64 fr, .int .i64 L]) ∨
    (ex ≠ all ∧ ex ≠ 0 ∧ partsC all one L ex fr neg = #[.int .i64 2, .bool neg, .int .u64 (fr + one), .int .i64 (L + ex - 1)]) := by
  unfold partsC
  by_cases h1 : ex = all <;> by_cases h2 : fr = 0 <;> by_cases h3 : ex = 0 <;> simp [h1, h2, h3] <;> simp_all

theorem parts_calls (all one L ex fr : Int) (neg : Bool) (w : World) (cs : Array Value) (hcs : partsC all one L ex fr neg = cs) (he : 0 ≤ ex ∧ ex ≤ 2047) (hL : -1074 ≤ L ∧ L ≤ 0) (hj : bits .or .u64 fr one = fr + one) :
    Calls Tryd.prog 36 #[.bool neg, .int .u64 ex, .int .u64 fr, .int .u64 all, .int .u64 one, .int .i64 L] w (RetV w (.agg cs)) := by
  have hu := Tryd.underlying25
  rcases parts_five all one L ex fr neg with ⟨c1, c2, c⟩ | ⟨c1, c2, c⟩ | ⟨c1, c2, c3, c⟩ | ⟨c1, c2, c3, c⟩ | ⟨c1, c2, c⟩ <;> (rw [c] at hcs; obtain rfl := hcs; clear c)
  · have f1 : (ex == all) = true := beq_t c1
    have f2 : (fr != 0) = true := bne_t c2
    clear c1 c2
    go_enter Tryd.func36, Tryd.ntmps36
    go_wp2
    refine bodyPost_ret (results_cell_row rfl _ _ w.heap.size 25 #[.int .i64 4, .bool false, .int .u64 0, .int .i64 0] (0, 0) _ rfl ?hg hu rfl rfl) rfl ?_
    case hg => exact heap_alloc_new _ _
    exact ⟨rfl, Step.of⟩
  · have f1 : (ex == all) = true := beq_t c1
    have f2 : (fr != 0) = false := bne_f c2
    clear c1 c2
    go_enter Tryd.func36, Tryd.ntmps36
    go_wp2
    refine bodyPost_ret (results_cell_row rfl _ _ w.heap.size 25 #[.int .i64 3, .bool neg, .int .u64 0, .int .i64 0] (0, 0) _ rfl ?hg hu rfl rfl) rfl ?_
    case hg => exact heap_alloc_new _ _
    exact ⟨rfl, Step.of⟩
  · have f1 : (ex == all) = false := beq_f c1
    have f2 : (ex == 0) = true := beq_t c2
    have f3 : (fr == 0) = true := beq_t c3
    clear c1 c2 c3
    go_enter Tryd.func36, Tryd.ntmps36
    go_wp2
    refine bodyPost_ret (results_cell_row rfl _ _ w.heap.size 25 #[.int .i64 0, .bool neg, .int .u64 0, .int .i64 0] (0, 0) _ rfl ?hg hu rfl rfl) rfl ?_
    case hg => exact heap_alloc_new _ _
    exact ⟨rfl, Step.of⟩
  · have f1 : (ex == all) = false := beq_f c1
    have f2 : (ex == 0) = true := beq_t c2
    have f3 : (fr == 0) = false := beq_f c3
    clear c1 c2 c3
    go_enter Tryd.func36, Tryd.ntmps36
    go_wp2
    refine bodyPost_ret (results_cell_row rfl _ _ w.heap.size 25 #[.int .i64 1, .bool neg, .int .u64 fr, .int .i64 L] (0, 0) _ rfl ?hg hu rfl rfl) rfl ?_
    case hg => exact heap_alloc_new _ _
    exact ⟨rfl, Step.of⟩
  · have f1 : (ex == all) = false := beq_f c1
    have f2 : (ex == 0) = false := beq_f c2
    clear c1 c2
    go_enter Tryd.func36, Tryd.ntmps36
    go_wp2
    refine bodyPost_ret (results_cell_row rfl _ _ w.heap.size 25 #[.int .i64 2, .bool neg, .int .u64 (fr + one), .int .i64 (L + ex - 1)] (0, 0) _ rfl ?hg hu rfl rfl) rfl ?_
    case hg => exact heap_alloc_new _ _
    exact ⟨rfl, Step.of⟩
end Tt
