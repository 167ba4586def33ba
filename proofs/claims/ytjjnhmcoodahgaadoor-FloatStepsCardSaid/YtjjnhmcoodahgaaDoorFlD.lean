/- Floats by their bits: Split, by the document. -/
import Derived.Test.YtjjnhmcoodahgaaDoorFlC
namespace Tt
open Go Go.RowKit Go.Proofs
set_option linter.unusedSimpArgs false
set_option linter.unusedVariables false
set_option maxRecDepth 100000

set_option maxHeartbeats 4000000 in
theorem rsplitW_calls (b : Int) (h0 : 0 ≤ b) (h1 : b < 18446744073709551616) (w : World) (cs : Array Value) (hcs : splitW b = cs) : Calls Tryd.prog 10 #[wideV, .int .u64 b] w (RetV w (.agg cs)) := by
  have ht := wtop_calls
  have hn := fun w => wneg_calls b h0 h1 w _ rfl
  unfold wideV at ht hn ⊢
  have hu := Tryd.underlying25
  have huz := Tryd.underlying31
  have e0 : bits .and .u64 (b / 4503599627370496) 2047 = b / 4503599627370496 % 2 ^ 11 := u64_mask 11 (by omega) _ _ (by omega) (by omega) rfl
  have e1 : bits .and .u64 b 4503599627370495 = b % 2 ^ 52 := u64_mask 52 (by omega) _ _ (by omega) (by omega) rfl
  unfold splitW at hcs
  generalize hneg : decide (9223372036854775808 ≤ b) = neg at hcs hn
  have HN := Lib.hid hneg; clear hneg
  rcases parts_five 2047 4503599627370496 (-1074) (b / 4503599627370496 % 2048) (b % 4503599627370496) neg with ⟨c1, c2, c⟩ | ⟨c1, c2, c⟩ | ⟨c1, c2, c3, c⟩ | ⟨c1, c2, c3, c⟩ | ⟨c1, c2, c⟩ <;> (rw [c] at hcs; obtain rfl := hcs; clear c)
  · have f1 : (b / 4503599627370496 % 2048 == 2047) = true := beq_t c1
    have f2 : (b % 4503599627370496 != 0) = true := bne_t c2
    clear c1 c2
    go_enter Tryd.func10, Tryd.ntmps10
    go_upto_region 2 with (fail)
    go_region_held3 (fun w' => w'.cell? ⟨w.heap.size, 0, none⟩ = some (.int .i64 53) ∧ w'.cell? ⟨w.heap.size, 1, none⟩ = some (.int .i64 (-1074)) ∧ w'.cell? ⟨w.heap.size, 2, none⟩ = some (.int .i64 971) ∧ w'.cell? ⟨w.heap.size, 3, none⟩ = some (.int .i64 52)) (go_keep) (first | (go_at_call 37; refine use (ht _) ?_; rintro e w1 ⟨rfl, rfl⟩))
    go_wp2_with (first | (go_at_call 37; refine use (ht _) ?_; rintro e w1 ⟨rfl, rfl⟩) | (go_at_call 38; refine use (hn _) ?_; rintro e w1 ⟨rfl, rfl⟩))
    refine bodyPost_ret (results_cell_row rfl _ _ (w.heap.size + 1) 25 #[.int .i64 4, .bool false, .int .u64 0, .int .i64 0] (0, 0) _ rfl ?hg hu rfl rfl) rfl ?_
    case hg => repeat (first | exact heap_alloc2_new _ _ _ | rw [heap_drew] | (refine (heap_alloc_old _ _ (by simp <;> omega)).trans ?_))
    exact ⟨rfl, Step.of⟩
  · have f1 : (b / 4503599627370496 % 2048 == 2047) = true := beq_t c1
    have f2 : (b % 4503599627370496 != 0) = false := bne_f c2
    clear c1 c2
    go_enter Tryd.func10, Tryd.ntmps10
    go_upto_region 2 with (fail)
    go_region_held3 (fun w' => w'.cell? ⟨w.heap.size, 0, none⟩ = some (.int .i64 53) ∧ w'.cell? ⟨w.heap.size, 1, none⟩ = some (.int .i64 (-1074)) ∧ w'.cell? ⟨w.heap.size, 2, none⟩ = some (.int .i64 971) ∧ w'.cell? ⟨w.heap.size, 3, none⟩ = some (.int .i64 52)) (go_keep) (first | (go_at_call 37; refine use (ht _) ?_; rintro e w1 ⟨rfl, rfl⟩))
    go_wp2_with (first | (go_at_call 37; refine use (ht _) ?_; rintro e w1 ⟨rfl, rfl⟩) | (go_at_call 38; refine use (hn _) ?_; rintro e w1 ⟨rfl, rfl⟩))
    refine bodyPost_ret (results_cell_row rfl _ _ (w.heap.size + 1) 25 #[.int .i64 3, .bool neg, .int .u64 0, .int .i64 0] (0, 0) _ rfl ?hg hu rfl rfl) rfl ?_
    case hg => repeat (first | exact heap_alloc2_new _ _ _ | rw [heap_drew] | (refine (heap_alloc_old _ _ (by simp <;> omega)).trans ?_))
    exact ⟨rfl, Step.of⟩
  · have f1 : (b / 4503599627370496 % 2048 == 2047) = false := beq_f c1
    have f2 : decide (0 < b / 4503599627370496 % 2048) = false := decide_eq_false (by omega)
    have f3 : decide (0 < b % 4503599627370496) = false := decide_eq_false (by omega)
    clear c1 c2 c3
    go_enter Tryd.func10, Tryd.ntmps10
    go_upto_region 2 with (fail)
    go_region_held3 (fun w' => w'.cell? ⟨w.heap.size, 0, none⟩ = some (.int .i64 53) ∧ w'.cell? ⟨w.heap.size, 1, none⟩ = some (.int .i64 (-1074)) ∧ w'.cell? ⟨w.heap.size, 2, none⟩ = some (.int .i64 971) ∧ w'.cell? ⟨w.heap.size, 3, none⟩ = some (.int .i64 52)) (go_keep) (first | (go_at_call 37; refine use (ht _) ?_; rintro e w1 ⟨rfl, rfl⟩))
    go_wp2_with (first | (go_at_call 37; refine use (ht _) ?_; rintro e w1 ⟨rfl, rfl⟩) | (go_at_call 38; refine use (hn _) ?_; rintro e w1 ⟨rfl, rfl⟩))
    refine bodyPost_ret (results_cell_row rfl _ _ (w.heap.size + 1) 25 #[.int .i64 0, .bool neg, .int .u64 0, .int .i64 0] (0, 0) _ rfl ?hg hu rfl rfl) rfl ?_
    case hg => repeat (first | exact heap_alloc2_new _ _ _ | rw [heap_drew] | (refine (heap_alloc_old _ _ (by simp <;> omega)).trans ?_))
    exact ⟨rfl, Step.of⟩
  · have f1 : (b / 4503599627370496 % 2048 == 2047) = false := beq_f c1
    have f2 : decide (0 < b / 4503599627370496 % 2048) = false := decide_eq_false (by omega)
    have f3 : decide (0 < b % 4503599627370496) = true := decide_eq_true (by omega)
    clear c1 c2 c3
    go_enter Tryd.func10, Tryd.ntmps10
    go_upto_region 2 with (fail)
    go_region_held3 (fun w' => w'.cell? ⟨w.heap.size, 0, none⟩ = some (.int .i64 53) ∧ w'.cell? ⟨w.heap.size, 1, none⟩ = some (.int .i64 (-1074)) ∧ w'.cell? ⟨w.heap.size, 2, none⟩ = some (.int .i64 971) ∧ w'.cell? ⟨w.heap.size, 3, none⟩ = some (.int .i64 52)) (go_keep) (first | (go_at_call 37; refine use (ht _) ?_; rintro e w1 ⟨rfl, rfl⟩))
    go_wp2_with (first | (go_at_call 37; refine use (ht _) ?_; rintro e w1 ⟨rfl, rfl⟩) | (go_at_call 38; refine use (hn _) ?_; rintro e w1 ⟨rfl, rfl⟩))
    refine bodyPost_ret (results_cell_row rfl _ _ (w.heap.size + 1) 25 #[.int .i64 1, .bool neg, .int .u64 (b % 4503599627370496), .int .i64 (-1074)] (0, 0) _ rfl ?hg hu rfl rfl) rfl ?_
    case hg => repeat (first | exact heap_alloc2_new _ _ _ | rw [heap_drew] | (refine (heap_alloc_old _ _ (by simp <;> omega)).trans ?_))
    exact ⟨rfl, Step.of⟩
  · have f1 : (b / 4503599627370496 % 2048 == 2047) = false := beq_f c1
    have f2 : decide (0 < b / 4503599627370496 % 2048) = true := decide_eq_true (by omega)
    clear c1 c2
    go_enter Tryd.func10, Tryd.ntmps10
    go_upto_region 2 with (fail)
    go_region_held3 (fun w' => w'.cell? ⟨w.heap.size, 0, none⟩ = some (.int .i64 53) ∧ w'.cell? ⟨w.heap.size, 1, none⟩ = some (.int .i64 (-1074)) ∧ w'.cell? ⟨w.heap.size, 2, none⟩ = some (.int .i64 971) ∧ w'.cell? ⟨w.heap.size, 3, none⟩ = some (.int .i64 52)) (go_keep) (first | (go_at_call 37; refine use (ht _) ?_; rintro e w1 ⟨rfl, rfl⟩))
    go_wp2_with (first | (go_at_call 37; refine use (ht _) ?_; rintro e w1 ⟨rfl, rfl⟩) | (go_at_call 38; refine use (hn _) ?_; rintro e w1 ⟨rfl, rfl⟩))
    refine bodyPost_ret (results_cell_row rfl _ _ (w.heap.size + 1) 25 #[.int .i64 2, .bool neg, .int .u64 (b % 4503599627370496 + 4503599627370496), .int .i64 ((-1074) + b / 4503599627370496 % 2048 - 1)] (0, 0) _ rfl ?hg hu rfl rfl) rfl ?_
    case hg => repeat (first | exact heap_alloc2_new _ _ _ | rw [heap_drew] | (refine (heap_alloc_old _ _ (by simp <;> omega)).trans ?_))
    exact ⟨rfl, Step.of⟩
set_option maxHeartbeats 4000000 in
theorem rsplitS_calls (b : Int) (h0 : 0 ≤ b) (h1 : b < 4294967296) (w : World) (cs : Array Value) (hcs : splitS b = cs) : Calls Tryd.prog 10 #[smallV, .int .u64 b] w (RetV w (.agg cs)) := by
  have ht := stop_calls
  have hn := fun w => sneg_calls b h0 h1 w _ rfl
  unfold smallV at ht hn ⊢
  have hu := Tryd.underlying25
  have huz := Tryd.underlying31
  have e0 : bits .and .u64 (b / 8388608) 255 = b / 8388608 % 2 ^ 8 := u64_mask 8 (by omega) _ _ (by omega) (by omega) rfl
  have e1 : bits .and .u64 b 8388607 = b % 2 ^ 23 := u64_mask 23 (by omega) _ _ (by omega) (by omega) rfl
  unfold splitS at hcs
  generalize hneg : decide (2147483648 ≤ b) = neg at hcs hn
  have HN := Lib.hid hneg; clear hneg
  rcases parts_five 255 8388608 (-149) (b / 8388608 % 256) (b % 8388608) neg with ⟨c1, c2, c⟩ | ⟨c1, c2, c⟩ | ⟨c1, c2, c3, c⟩ | ⟨c1, c2, c3, c⟩ | ⟨c1, c2, c⟩ <;> (rw [c] at hcs; obtain rfl := hcs; clear c)
  · have f1 : (b / 8388608 % 256 == 255) = true := beq_t c1
    have f2 : (b % 8388608 != 0) = true := bne_t c2
    clear c1 c2
    go_enter Tryd.func10, Tryd.ntmps10
    go_upto_region 2 with (fail)
    go_region_held3 (fun w' => w'.cell? ⟨w.heap.size, 0, none⟩ = some (.int .i64 24) ∧ w'.cell? ⟨w.heap.size, 1, none⟩ = some (.int .i64 (-149)) ∧ w'.cell? ⟨w.heap.size, 2, none⟩ = some (.int .i64 104) ∧ w'.cell? ⟨w.heap.size, 3, none⟩ = some (.int .i64 23)) (go_keep) (first | (go_at_call 37; refine use (ht _) ?_; rintro e w1 ⟨rfl, rfl⟩))
    go_wp2_with (first | (go_at_call 37; refine use (ht _) ?_; rintro e w1 ⟨rfl, rfl⟩) | (go_at_call 38; refine use (hn _) ?_; rintro e w1 ⟨rfl, rfl⟩))
    refine bodyPost_ret (results_cell_row rfl _ _ (w.heap.size + 1) 25 #[.int .i64 4, .bool false, .int .u64 0, .int .i64 0] (0, 0) _ rfl ?hg hu rfl rfl) rfl ?_
    case hg => repeat (first | exact heap_alloc2_new _ _ _ | rw [heap_drew] | (refine (heap_alloc_old _ _ (by simp <;> omega)).trans ?_))
    exact ⟨rfl, Step.of⟩
  · have f1 : (b / 8388608 % 256 == 255) = true := beq_t c1
    have f2 : (b % 8388608 != 0) = false := bne_f c2
    clear c1 c2
    go_enter Tryd.func10, Tryd.ntmps10
    go_upto_region 2 with (fail)
    go_region_held3 (fun w' => w'.cell? ⟨w.heap.size, 0, none⟩ = some (.int .i64 24) ∧ w'.cell? ⟨w.heap.size, 1, none⟩ = some (.int .i64 (-149)) ∧ w'.cell? ⟨w.heap.size, 2, none⟩ = some (.int .i64 104) ∧ w'.cell? ⟨w.heap.size, 3, none⟩ = some (.int .i64 23)) (go_keep) (first | (go_at_call 37; refine use (ht _) ?_; rintro e w1 ⟨rfl, rfl⟩))
    go_wp2_with (first | (go_at_call 37; refine use (ht _) ?_; rintro e w1 ⟨rfl, rfl⟩) | (go_at_call 38; refine use (hn _) ?_; rintro e w1 ⟨rfl, rfl⟩))
    refine bodyPost_ret (results_cell_row rfl _ _ (w.heap.size + 1) 25 #[.int .i64 3, .bool neg, .int .u64 0, .int .i64 0] (0, 0) _ rfl ?hg hu rfl rfl) rfl ?_
    case hg => repeat (first | exact heap_alloc2_new _ _ _ | rw [heap_drew] | (refine (heap_alloc_old _ _ (by simp <;> omega)).trans ?_))
    exact ⟨rfl, Step.of⟩
  · have f1 : (b / 8388608 % 256 == 255) = false := beq_f c1
    have f2 : decide (0 < b / 8388608 % 256) = false := decide_eq_false (by omega)
    have f3 : decide (0 < b % 8388608) = false := decide_eq_false (by omega)
    clear c1 c2 c3
    go_enter Tryd.func10, Tryd.ntmps10
    go_upto_region 2 with (fail)
    go_region_held3 (fun w' => w'.cell? ⟨w.heap.size, 0, none⟩ = some (.int .i64 24) ∧ w'.cell? ⟨w.heap.size, 1, none⟩ = some (.int .i64 (-149)) ∧ w'.cell? ⟨w.heap.size, 2, none⟩ = some (.int .i64 104) ∧ w'.cell? ⟨w.heap.size, 3, none⟩ = some (.int .i64 23)) (go_keep) (first | (go_at_call 37; refine use (ht _) ?_; rintro e w1 ⟨rfl, rfl⟩))
    go_wp2_with (first | (go_at_call 37; refine use (ht _) ?_; rintro e w1 ⟨rfl, rfl⟩) | (go_at_call 38; refine use (hn _) ?_; rintro e w1 ⟨rfl, rfl⟩))
    refine bodyPost_ret (results_cell_row rfl _ _ (w.heap.size + 1) 25 #[.int .i64 0, .bool neg, .int .u64 0, .int .i64 0] (0, 0) _ rfl ?hg hu rfl rfl) rfl ?_
    case hg => repeat (first | exact heap_alloc2_new _ _ _ | rw [heap_drew] | (refine (heap_alloc_old _ _ (by simp <;> omega)).trans ?_))
    exact ⟨rfl, Step.of⟩
  · have f1 : (b / 8388608 % 256 == 255) = false := beq_f c1
    have f2 : decide (0 < b / 8388608 % 256) = false := decide_eq_false (by omega)
    have f3 : decide (0 < b % 8388608) = true := decide_eq_true (by omega)
    clear c1 c2 c3
    go_enter Tryd.func10, Tryd.ntmps10
    go_upto_region 2 with (fail)
    go_region_held3 (fun w' => w'.cell? ⟨w.heap.size, 0, none⟩ = some (.int .i64 24) ∧ w'.cell? ⟨w.heap.size, 1, none⟩ = some (.int .i64 (-149)) ∧ w'.cell? ⟨w.heap.size, 2, none⟩ = some (.int .i64 104) ∧ w'.cell? ⟨w.heap.size, 3, none⟩ = some (.int .i64 23)) (go_keep) (first | (go_at_call 37; refine use (ht _) ?_; rintro e w1 ⟨rfl, rfl⟩))
    go_wp2_with (first | (go_at_call 37; refine use (ht _) ?_; rintro e w1 ⟨rfl, rfl⟩) | (go_at_call 38; refine use (hn _) ?_; rintro e w1 ⟨rfl, rfl⟩))
    refine bodyPost_ret (results_cell_row rfl _ _ (w.heap.size + 1) 25 #[.int .i64 1, .bool neg, .int .u64 (b % 8388608), .int .i64 (-149)] (0, 0) _ rfl ?hg hu rfl rfl) rfl ?_
    case hg => repeat (first | exact heap_alloc2_new _ _ _ | rw [heap_drew] | (refine (heap_alloc_old _ _ (by simp <;> omega)).trans ?_))
    exact ⟨rfl, Step.of⟩
  · have f1 : (b / 8388608 % 256 == 255) = false := beq_f c1
    have f2 : decide (0 < b / 8388608 % 256) = true := decide_eq_true (by omega)
    clear c1 c2
    go_enter Tryd.func10, Tryd.ntmps10
    go_upto_region 2 with (fail)
    go_region_held3 (fun w' => w'.cell? ⟨w.heap.size, 0, none⟩ = some (.int .i64 24) ∧ w'.cell? ⟨w.heap.size, 1, none⟩ = some (.int .i64 (-149)) ∧ w'.cell? ⟨w.heap.size, 2, none⟩ = some (.int .i64 104) ∧ w'.cell? ⟨w.heap.size, 3, none⟩ = some (.int .i64 23)) (go_keep) (first | (go_at_call 37; refine use (ht _) ?_; rintro e w1 ⟨rfl, rfl⟩))
    go_wp2_with (first | (go_at_call 37; refine use (ht _) ?_; rintro e w1 ⟨rfl, rfl⟩) | (go_at_call 38; refine use (hn _) ?_; rintro e w1 ⟨rfl, rfl⟩))
    refine bodyPost_ret (results_cell_row rfl _ _ (w.heap.size + 1) 25 #[.int .i64 2, .bool neg, .int .u64 (b % 8388608 + 8388608), .int .i64 ((-149) + b / 8388608 % 256 - 1)] (0, 0) _ rfl ?hg hu rfl rfl) rfl ?_
    case hg => repeat (first | exact heap_alloc2_new _ _ _ | rw [heap_drew] | (refine (heap_alloc_old _ _ (by simp <;> omega)).trans ?_))
    exact ⟨rfl, Step.of⟩
end Tt
