/- Floats by their bits: the program's Join. -/
import Derived.Test.YtjjnhmcoodahgaaDoorFlI
namespace Tt
open Go Go.RowKit Go.Proofs
set_option linter.unusedSimpArgs false
set_option linter.unusedVariables false
set_option maxRecDepth 100000

set_option maxHeartbeats 8000000 in
theorem join_bad (k : Int) (neg : Bool) (m x : Int) (h0 : 0 ≤ m) (h1 : m < 18446744073709551616) (w : World) (G : Globs w) (hb : ¬ soundP 4503599627370496 (-1074) 971 k neg m x) :
    Calls Tryd.prog 14 #[partsV k neg m x] w (RetV w (.tuple #[.float .f64 0, .int .i64 21])) := by
  have hs := fun w => soundW_calls k neg m x h0 h1 w false (by simp [hb])
  unfold partsV at hs ⊢
  have HS := Lib.hid hs; clear hs hb
  have hu := Tryd.underlying25
  have huf := Tryd.underlying68
  obtain ⟨⟨g0, g1, g2⟩, ⟨s0, s1, s2⟩⟩ := G
  have hlt : 0 < w.heap.size := World.block_lt_of_cell? _ _ g1
  go_enter Tryd.func14, Tryd.ntmps14
  go_wp2_with (first | (go_at_call 40; refine use (HS.out _) ?_; rintro e w1 ⟨rfl, hs1⟩))
  go_ret2
  exact ⟨rfl, Step.of⟩
set_option maxHeartbeats 8000000 in
theorem join_nought (neg : Bool) (m x : Int) (h0 : 0 ≤ m) (h1 : m < 18446744073709551616) (w : World) (G : Globs w) (hb : soundP 4503599627370496 (-1074) 971 0 neg m x) :
    Calls Tryd.prog 14 #[partsV 0 neg m x] w (RetV w (.tuple #[.float .f64 (if neg = true then Op.negFloat .f64 0 else 0), .int .i64 0])) := by
  have hs := fun w => soundW_calls 0 neg m x h0 h1 w true (by simp [hb])
  unfold partsV at hs ⊢
  have HS := Lib.hid hs; clear hs
  have hu := Tryd.underlying25
  have huf := Tryd.underlying68
  have hug := Tryd.underlying76
  have hsg := fsigned_calls
  obtain ⟨⟨g0, g1, g2⟩, ⟨s0, s1, s2⟩⟩ := G
  have hlt : 0 < w.heap.size := World.block_lt_of_cell? _ _ g1
  go_enter Tryd.func14, Tryd.ntmps14
  go_wp2_with (first | (go_at_call 40; refine use (HS.out _) ?_; rintro e w1 ⟨rfl, hs1⟩; have c0 := box_keep (w := w) (w1 := w1) (cs := #[.int .i64 0, .bool neg, .int .u64 m, .int .i64 x]) 0 (v := .int .i64 0) rfl; have c1 := box_keep (w := w) (w1 := w1) (cs := #[.int .i64 0, .bool neg, .int .u64 m, .int .i64 x]) 1 (v := .bool neg) rfl; have c2 := box_keep (w := w) (w1 := w1) (cs := #[.int .i64 0, .bool neg, .int .u64 m, .int .i64 x]) 2 (v := .int .u64 m) rfl; have c3 := box_keep (w := w) (w1 := w1) (cs := #[.int .i64 0, .bool neg, .int .u64 m, .int .i64 x]) 3 (v := .int .i64 x) rfl) | (go_at_call 44; refine use (fsigned_calls _ _ _) ?_; rintro e w3 ⟨rfl, rfl⟩))
  all_goals (go_ret2; exact ⟨rfl, Step.of⟩)
set_option maxHeartbeats 8000000 in
theorem join_inf (neg : Bool) (m x : Int) (h0 : 0 ≤ m) (h1 : m < 18446744073709551616) (w : World) (G : Globs w) (hb : soundP 4503599627370496 (-1074) 971 3 neg m x) :
    Calls Tryd.prog 14 #[partsV 3 neg m x] w (RetV w (.tuple #[.float .f64 (if neg = true then Op.negFloat .f64 9218868437227405312 else 9218868437227405312), .int .i64 0])) := by
  have hs := fun w => soundW_calls 3 neg m x h0 h1 w true (by simp [hb])
  unfold partsV at hs ⊢
  have HS := Lib.hid hs; clear hs
  have hu := Tryd.underlying25
  have huf := Tryd.underlying68
  have hug := Tryd.underlying76
  have hsg := fsigned_calls
  obtain ⟨⟨g0, g1, g2⟩, ⟨s0, s1, s2⟩⟩ := G
  have hlt : 0 < w.heap.size := World.block_lt_of_cell? _ _ g1
  go_enter Tryd.func14, Tryd.ntmps14
  go_wp2_with (first | (go_at_call 40; refine use (HS.out _) ?_; rintro e w1 ⟨rfl, hs1⟩; have c0 := box_keep (w := w) (w1 := w1) (cs := #[.int .i64 3, .bool neg, .int .u64 m, .int .i64 x]) 0 (v := .int .i64 3) rfl; have c1 := box_keep (w := w) (w1 := w1) (cs := #[.int .i64 3, .bool neg, .int .u64 m, .int .i64 x]) 1 (v := .bool neg) rfl; have c2 := box_keep (w := w) (w1 := w1) (cs := #[.int .i64 3, .bool neg, .int .u64 m, .int .i64 x]) 2 (v := .int .u64 m) rfl; have c3 := box_keep (w := w) (w1 := w1) (cs := #[.int .i64 3, .bool neg, .int .u64 m, .int .i64 x]) 3 (v := .int .i64 x) rfl) | (go_at_call 41; refine use (inf_calls _) ?_; rintro e w2 ⟨rfl, rfl⟩) | (go_at_call 44; refine use (fsigned_calls _ _ _) ?_; rintro e w3 ⟨rfl, rfl⟩))
  all_goals (go_ret2; exact ⟨rfl, Step.of⟩)
set_option maxHeartbeats 8000000 in
theorem join_none (neg : Bool) (m x : Int) (h0 : 0 ≤ m) (h1 : m < 18446744073709551616) (w : World) (G : Globs w) (hb : soundP 4503599627370496 (-1074) 971 4 neg m x) :
    Calls Tryd.prog 14 #[partsV 4 neg m x] w (RetV w (.tuple #[.float .f64 (if neg = true then Op.negFloat .f64 9221120237041090561 else 9221120237041090561), .int .i64 0])) := by
  have hs := fun w => soundW_calls 4 neg m x h0 h1 w true (by simp [hb])
  unfold partsV at hs ⊢
  have HS := Lib.hid hs; clear hs
  have hu := Tryd.underlying25
  have huf := Tryd.underlying68
  have hug := Tryd.underlying76
  have hsg := fsigned_calls
  obtain ⟨⟨g0, g1, g2⟩, ⟨s0, s1, s2⟩⟩ := G
  have hlt : 0 < w.heap.size := World.block_lt_of_cell? _ _ g1
  go_enter Tryd.func14, Tryd.ntmps14
  go_wp2_with (first | (go_at_call 40; refine use (HS.out _) ?_; rintro e w1 ⟨rfl, hs1⟩; have c0 := box_keep (w := w) (w1 := w1) (cs := #[.int .i64 4, .bool neg, .int .u64 m, .int .i64 x]) 0 (v := .int .i64 4) rfl; have c1 := box_keep (w := w) (w1 := w1) (cs := #[.int .i64 4, .bool neg, .int .u64 m, .int .i64 x]) 1 (v := .bool neg) rfl; have c2 := box_keep (w := w) (w1 := w1) (cs := #[.int .i64 4, .bool neg, .int .u64 m, .int .i64 x]) 2 (v := .int .u64 m) rfl; have c3 := box_keep (w := w) (w1 := w1) (cs := #[.int .i64 4, .bool neg, .int .u64 m, .int .i64 x]) 3 (v := .int .i64 x) rfl) | (go_at_call 42; refine use (nan_calls _) ?_; rintro e w2 ⟨rfl, rfl⟩) | (go_at_call 44; refine use (fsigned_calls _ _ _) ?_; rintro e w3 ⟨rfl, rfl⟩))
  all_goals (go_ret2; exact ⟨rfl, Step.of⟩)
set_option maxHeartbeats 8000000 in
theorem join_small (neg : Bool) (m x : Int) (h0 : 0 ≤ m) (h1 : m < 18446744073709551616) (w : World) (G : Globs w) (r : Nat) (hff : ∀ w, Calls Tryd.prog 43 #[.agg #[.int .u64 m, .int .i64 x, .bool false, .bool false]] w (RetV w (.float .f64 r))) (hb : soundP 4503599627370496 (-1074) 971 1 neg m x) :
    Calls Tryd.prog 14 #[partsV 1 neg m x] w (RetV w (.tuple #[.float .f64 (if neg = true then Op.negFloat .f64 r else r), .int .i64 0])) := by
  have hs := fun w => soundW_calls 1 neg m x h0 h1 w true (by simp [hb])
  unfold partsV at hs ⊢
  have HS := Lib.hid hs; clear hs
  have hu := Tryd.underlying25
  have huf := Tryd.underlying68
  have hug := Tryd.underlying76
  have hsg := fsigned_calls
  obtain ⟨⟨g0, g1, g2⟩, ⟨s0, s1, s2⟩⟩ := G
  have hlt : 0 < w.heap.size := World.block_lt_of_cell? _ _ g1
  have HFF := Lib.hid hff; clear hff
  go_enter Tryd.func14, Tryd.ntmps14
  go_wp2_with (first | (go_at_call 40; refine use (HS.out _) ?_; rintro e w1 ⟨rfl, hs1⟩; have c0 := box_keep (w := w) (w1 := w1) (cs := #[.int .i64 1, .bool neg, .int .u64 m, .int .i64 x]) 0 (v := .int .i64 1) rfl; have c1 := box_keep (w := w) (w1 := w1) (cs := #[.int .i64 1, .bool neg, .int .u64 m, .int .i64 x]) 1 (v := .bool neg) rfl; have c2 := box_keep (w := w) (w1 := w1) (cs := #[.int .i64 1, .bool neg, .int .u64 m, .int .i64 x]) 2 (v := .int .u64 m) rfl; have c3 := box_keep (w := w) (w1 := w1) (cs := #[.int .i64 1, .bool neg, .int .u64 m, .int .i64 x]) 3 (v := .int .i64 x) rfl) | (go_at_call 43; refine use (HFF.out _) ?_; rintro e w2 ⟨rfl, hs2⟩; have d1 := cell_keep (h := hs2) c1) | (go_at_call 44; refine use (fsigned_calls _ _ _) ?_; rintro e w3 ⟨rfl, rfl⟩))
  all_goals (go_ret2; exact ⟨rfl, Step.of⟩)
set_option maxHeartbeats 8000000 in
theorem join_normal (neg : Bool) (m x : Int) (h0 : 0 ≤ m) (h1 : m < 18446744073709551616) (w : World) (G : Globs w) (r : Nat) (hff : ∀ w, Calls Tryd.prog 43 #[.agg #[.int .u64 m, .int .i64 x, .bool false, .bool false]] w (RetV w (.float .f64 r))) (hb : soundP 4503599627370496 (-1074) 971 2 neg m x) :
    Calls Tryd.prog 14 #[partsV 2 neg m x] w (RetV w (.tuple #[.float .f64 (if neg = true then Op.negFloat .f64 r else r), .int .i64 0])) := by
  have hs := fun w => soundW_calls 2 neg m x h0 h1 w true (by simp [hb])
  unfold partsV at hs ⊢
  have HS := Lib.hid hs; clear hs
  have hu := Tryd.underlying25
  have huf := Tryd.underlying68
  have hug := Tryd.underlying76
  have hsg := fsigned_calls
  obtain ⟨⟨g0, g1, g2⟩, ⟨s0, s1, s2⟩⟩ := G
  have hlt : 0 < w.heap.size := World.block_lt_of_cell? _ _ g1
  have HFF := Lib.hid hff; clear hff
  go_enter Tryd.func14, Tryd.ntmps14
  go_wp2_with (first | (go_at_call 40; refine use (HS.out _) ?_; rintro e w1 ⟨rfl, hs1⟩; have c0 := box_keep (w := w) (w1 := w1) (cs := #[.int .i64 2, .bool neg, .int .u64 m, .int .i64 x]) 0 (v := .int .i64 2) rfl; have c1 := box_keep (w := w) (w1 := w1) (cs := #[.int .i64 2, .bool neg, .int .u64 m, .int .i64 x]) 1 (v := .bool neg) rfl; have c2 := box_keep (w := w) (w1 := w1) (cs := #[.int .i64 2, .bool neg, .int .u64 m, .int .i64 x]) 2 (v := .int .u64 m) rfl; have c3 := box_keep (w := w) (w1 := w1) (cs := #[.int .i64 2, .bool neg, .int .u64 m, .int .i64 x]) 3 (v := .int .i64 x) rfl) | (go_at_call 43; refine use (HFF.out _) ?_; rintro e w2 ⟨rfl, hs2⟩; have d1 := cell_keep (h := hs2) c1) | (go_at_call 44; refine use (fsigned_calls _ _ _) ?_; rintro e w3 ⟨rfl, rfl⟩))
  all_goals (go_ret2; exact ⟨rfl, Step.of⟩)
end Tt
