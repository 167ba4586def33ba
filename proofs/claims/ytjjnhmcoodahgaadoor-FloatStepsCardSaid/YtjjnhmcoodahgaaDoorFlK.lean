/- Floats by their bits: the program's Join of small floats. -/
import Derived.Test.YtjjnhmcoodahgaaDoorFlJ
namespace Tt
open Go Go.RowKit Go.Proofs
set_option linter.unusedSimpArgs false
set_option linter.unusedVariables false
set_option maxRecDepth 100000
attribute [local go_sem] unary_negf

theorem conv_inf (w : World) : (convert 28 35 (.float .f64 9218868437227405312)).run Tryd.prog w = .ok (.float .f32 2139095040) w := by
  have h1 := Tryd.underlying28
  have h2 := Tryd.underlying35
  have hd : FloatKind.f64.decode 9218868437227405312 = .infinity false := by decide +kernel
  have he : FloatKind.f32.encode (.infinity false) = 2139095040 := by decide +kernel
  simp [convert, run_underlying h1, run_underlying h2, Conv.floatToFloat, hd, he]
/-- A small float that is none. -/
def isNaN32 (b : Nat) : Prop := b < 4294967296 ∧ b / 8388608 % 256 = 255 ∧ b % 8388608 ≠ 0
theorem conv_nan (w : World) : ∃ b, isNaN32 b ∧ (convert 28 35 (.float .f64 9221120237041090561)).run Tryd.prog w = .ok (.float .f32 b) w.drew := by
  have h1 := Tryd.underlying28
  have h2 := Tryd.underlying35
  obtain ⟨s, p, hd⟩ : ∃ s p, FloatKind.f64.decode 9221120237041090561 = .nan s p := ⟨_, _, by with_unfolding_all rfl⟩
  refine ⟨_, ?_, by simp [convert, run_underlying h1, run_underlying h2, Conv.floatToFloat, hd, Question.forced]; rfl⟩
  unfold isNaN32
  simp only [Question.cut]
  generalize w.tape w.drawn (Question.nanConv FloatKind.f32 9221120237041090561) = t
  have hv : t / 2 % (2 ^ 23 - 1) ≤ 8388606 := by have := Nat.mod_lt (t / 2) (show 2 ^ 23 - 1 > 0 by decide); omega
  generalize t / 2 % (2 ^ 23 - 1) = v at hv ⊢
  have hu : t % 2 = 0 ∨ t % 2 = 1 := by omega
  generalize t % 2 = u at hu ⊢
  rcases hu with rfl | rfl <;> omega
set_option maxHeartbeats 8000000 in
theorem join32_bad (k : Int) (neg : Bool) (m x : Int) (h0 : 0 ≤ m) (h1 : m < 18446744073709551616) (w : World) (G : Globs w) (hb : ¬ soundP 8388608 (-149) 104 k neg m x) :
    Calls Tryd.prog 15 #[partsV k neg m x] w (RetV w (.tuple #[.float .f32 0, .int .i64 21])) := by
  have hs := fun w => soundS_calls k neg m x h0 h1 w false (by simp [hb])
  unfold partsV at hs ⊢
  have HS := Lib.hid hs; clear hs hb
  have hu := Tryd.underlying25
  have huf := Tryd.underlying68
  obtain ⟨⟨g0, g1, g2⟩, ⟨s0, s1, s2⟩⟩ := G
  have hlt : 2 < w.heap.size := World.block_lt_of_cell? _ _ s1
  go_enter Tryd.func15, Tryd.ntmps15
  go_wp2_with (first | (go_at_call 40; refine use (HS.out _) ?_; rintro e w1 ⟨rfl, hs1⟩))
  go_ret2
  exact ⟨rfl, Step.of⟩
set_option maxHeartbeats 8000000 in
theorem join32_nought (neg : Bool) (m x : Int) (h0 : 0 ≤ m) (h1 : m < 18446744073709551616) (w : World) (G : Globs w) (hb : soundP 8388608 (-149) 104 0 neg m x) :
    Calls Tryd.prog 15 #[partsV 0 neg m x] w (RetV w (.tuple #[.float .f32 (if neg = true then Op.negFloat .f32 0 else 0), .int .i64 0])) := by
  have hs := fun w => soundS_calls 0 neg m x h0 h1 w true (by simp [hb])
  unfold partsV at hs ⊢
  have HS := Lib.hid hs; clear hs
  have hu := Tryd.underlying25
  have huf := Tryd.underlying68
  have hug := Tryd.underlying76
  obtain ⟨⟨g0, g1, g2⟩, ⟨s0, s1, s2⟩⟩ := G
  have hlt : 2 < w.heap.size := World.block_lt_of_cell? _ _ s1
  go_enter Tryd.func15, Tryd.ntmps15
  go_wp2_with (first | (go_at_call 40; refine use (HS.out _) ?_; rintro e w1 ⟨rfl, hs1⟩; have c0 := box_keep (w := w) (w1 := w1) (cs := #[.int .i64 0, .bool neg, .int .u64 m, .int .i64 x]) 0 (v := .int .i64 0) rfl; have c1 := box_keep (w := w) (w1 := w1) (cs := #[.int .i64 0, .bool neg, .int .u64 m, .int .i64 x]) 1 (v := .bool neg) rfl; have c2 := box_keep (w := w) (w1 := w1) (cs := #[.int .i64 0, .bool neg, .int .u64 m, .int .i64 x]) 2 (v := .int .u64 m) rfl; have c3 := box_keep (w := w) (w1 := w1) (cs := #[.int .i64 0, .bool neg, .int .u64 m, .int .i64 x]) 3 (v := .int .i64 x) rfl))
  all_goals (go_ret2; exact ⟨rfl, Step.of⟩)
set_option maxHeartbeats 8000000 in
theorem join32_inf (neg : Bool) (m x : Int) (h0 : 0 ≤ m) (h1 : m < 18446744073709551616) (w : World) (G : Globs w) (hb : soundP 8388608 (-149) 104 3 neg m x) :
    Calls Tryd.prog 15 #[partsV 3 neg m x] w (RetV w (.tuple #[.float .f32 (if neg = true then Op.negFloat .f32 2139095040 else 2139095040), .int .i64 0])) := by
  have hs := fun w => soundS_calls 3 neg m x h0 h1 w true (by simp [hb])
  unfold partsV at hs ⊢
  have HS := Lib.hid hs; clear hs
  have hu := Tryd.underlying25
  have huf := Tryd.underlying68
  have hug := Tryd.underlying76
  obtain ⟨⟨g0, g1, g2⟩, ⟨s0, s1, s2⟩⟩ := G
  have hlt : 2 < w.heap.size := World.block_lt_of_cell? _ _ s1
  have hci := conv_inf
  go_enter Tryd.func15, Tryd.ntmps15
  go_wp2_with (first | (go_at_call 40; refine use (HS.out _) ?_; rintro e w1 ⟨rfl, hs1⟩; have c0 := box_keep (w := w) (w1 := w1) (cs := #[.int .i64 3, .bool neg, .int .u64 m, .int .i64 x]) 0 (v := .int .i64 3) rfl; have c1 := box_keep (w := w) (w1 := w1) (cs := #[.int .i64 3, .bool neg, .int .u64 m, .int .i64 x]) 1 (v := .bool neg) rfl; have c2 := box_keep (w := w) (w1 := w1) (cs := #[.int .i64 3, .bool neg, .int .u64 m, .int .i64 x]) 2 (v := .int .u64 m) rfl; have c3 := box_keep (w := w) (w1 := w1) (cs := #[.int .i64 3, .bool neg, .int .u64 m, .int .i64 x]) 3 (v := .int .i64 x) rfl) | (go_at_call 41; refine use (inf_calls _) ?_; rintro e w2 ⟨rfl, rfl⟩))
  all_goals (go_ret2; exact ⟨rfl, Step.of⟩)
set_option maxHeartbeats 8000000 in
theorem join32_small (neg : Bool) (m x : Int) (h0 : 0 ≤ m) (h1 : m < 18446744073709551616) (w : World) (G : Globs w) (r : Nat) (hff : ∀ w, Calls Tryd.prog 45 #[.agg #[.int .u64 m, .int .i64 x, .bool false, .bool false]] w (RetV w (.float .f32 r))) (hb : soundP 8388608 (-149) 104 1 neg m x) :
    Calls Tryd.prog 15 #[partsV 1 neg m x] w (RetV w (.tuple #[.float .f32 (if neg = true then Op.negFloat .f32 r else r), .int .i64 0])) := by
  have hs := fun w => soundS_calls 1 neg m x h0 h1 w true (by simp [hb])
  unfold partsV at hs ⊢
  have HS := Lib.hid hs; clear hs
  have hu := Tryd.underlying25
  have huf := Tryd.underlying68
  have hug := Tryd.underlying76
  obtain ⟨⟨g0, g1, g2⟩, ⟨s0, s1, s2⟩⟩ := G
  have hlt : 2 < w.heap.size := World.block_lt_of_cell? _ _ s1
  have HFF := Lib.hid hff; clear hff
  go_enter Tryd.func15, Tryd.ntmps15
  go_wp2_with (first | (go_at_call 40; refine use (HS.out _) ?_; rintro e w1 ⟨rfl, hs1⟩; have c0 := box_keep (w := w) (w1 := w1) (cs := #[.int .i64 1, .bool neg, .int .u64 m, .int .i64 x]) 0 (v := .int .i64 1) rfl; have c1 := box_keep (w := w) (w1 := w1) (cs := #[.int .i64 1, .bool neg, .int .u64 m, .int .i64 x]) 1 (v := .bool neg) rfl; have c2 := box_keep (w := w) (w1 := w1) (cs := #[.int .i64 1, .bool neg, .int .u64 m, .int .i64 x]) 2 (v := .int .u64 m) rfl; have c3 := box_keep (w := w) (w1 := w1) (cs := #[.int .i64 1, .bool neg, .int .u64 m, .int .i64 x]) 3 (v := .int .i64 x) rfl) | (go_at_call 45; refine use (HFF.out _) ?_; rintro e w2 ⟨rfl, hs2⟩; have d1 := cell_keep (h := hs2) c1))
  all_goals (go_ret2; exact ⟨rfl, Step.of⟩)
set_option maxHeartbeats 8000000 in
theorem join32_normal (neg : Bool) (m x : Int) (h0 : 0 ≤ m) (h1 : m < 18446744073709551616) (w : World) (G : Globs w) (r : Nat) (hff : ∀ w, Calls Tryd.prog 45 #[.agg #[.int .u64 m, .int .i64 x, .bool false, .bool false]] w (RetV w (.float .f32 r))) (hb : soundP 8388608 (-149) 104 2 neg m x) :
    Calls Tryd.prog 15 #[partsV 2 neg m x] w (RetV w (.tuple #[.float .f32 (if neg = true then Op.negFloat .f32 r else r), .int .i64 0])) := by
  have hs := fun w => soundS_calls 2 neg m x h0 h1 w true (by simp [hb])
  unfold partsV at hs ⊢
  have HS := Lib.hid hs; clear hs
  have hu := Tryd.underlying25
  have huf := Tryd.underlying68
  have hug := Tryd.underlying76
  obtain ⟨⟨g0, g1, g2⟩, ⟨s0, s1, s2⟩⟩ := G
  have hlt : 2 < w.heap.size := World.block_lt_of_cell? _ _ s1
  have HFF := Lib.hid hff; clear hff
  go_enter Tryd.func15, Tryd.ntmps15
  go_wp2_with (first | (go_at_call 40; refine use (HS.out _) ?_; rintro e w1 ⟨rfl, hs1⟩; have c0 := box_keep (w := w) (w1 := w1) (cs := #[.int .i64 2, .bool neg, .int .u64 m, .int .i64 x]) 0 (v := .int .i64 2) rfl; have c1 := box_keep (w := w) (w1 := w1) (cs := #[.int .i64 2, .bool neg, .int .u64 m, .int .i64 x]) 1 (v := .bool neg) rfl; have c2 := box_keep (w := w) (w1 := w1) (cs := #[.int .i64 2, .bool neg, .int .u64 m, .int .i64 x]) 2 (v := .int .u64 m) rfl; have c3 := box_keep (w := w) (w1 := w1) (cs := #[.int .i64 2, .bool neg, .int .u64 m, .int .i64 x]) 3 (v := .int .i64 x) rfl) | (go_at_call 45; refine use (HFF.out _) ?_; rintro e w2 ⟨rfl, hs2⟩; have d1 := cell_keep (h := hs2) c1))
  all_goals (go_ret2; exact ⟨rfl, Step.of⟩)
/-- Some small float that is none. -/
def RetNaN32 (w : World) (e : Ending) (w' : World) : Prop := ∃ b, isNaN32 b ∧ e = .returned (.tuple #[.float .f32 b, .int .i64 0]) ∧ Step w w'
set_option maxHeartbeats 8000000 in
theorem join32_none (neg : Bool) (m x : Int) (h0 : 0 ≤ m) (h1 : m < 18446744073709551616) (w : World) (G : Globs w) (hb : soundP 8388608 (-149) 104 4 neg m x) :
    Calls Tryd.prog 15 #[partsV 4 neg m x] w (RetNaN32 w) := by
  have hs := fun w => soundS_calls 4 neg m x h0 h1 w true (by simp [hb])
  unfold partsV at hs ⊢
  have HS := Lib.hid hs; clear hs
  have hu := Tryd.underlying25
  have huf := Tryd.underlying68
  have hug := Tryd.underlying76
  obtain ⟨⟨g0, g1, g2⟩, ⟨s0, s1, s2⟩⟩ := G
  have hlt : 2 < w.heap.size := World.block_lt_of_cell? _ _ s1
  obtain ⟨nb, hnb⟩ := Classical.skolem.1 conv_nan
  have HN := fun w => (hnb w).1
  have hn2 := fun w => (hnb w).2
  have hneg : neg = false := by rcases hb with ⟨h, _⟩ | ⟨_, h, _⟩ | ⟨h, _⟩ | ⟨h, _⟩ <;> first | exact h | omega
  subst hneg
  go_enter Tryd.func15, Tryd.ntmps15
  go_wp2_with (first | (go_at_call 40; refine use (HS.out _) ?_; rintro e w1 ⟨rfl, hs1⟩; have c0 := box_keep (w := w) (w1 := w1) (cs := #[.int .i64 4, .bool false, .int .u64 m, .int .i64 x]) 0 (v := .int .i64 4) rfl; have c1 := box_keep (w := w) (w1 := w1) (cs := #[.int .i64 4, .bool false, .int .u64 m, .int .i64 x]) 1 (v := .bool false) rfl; have c2 := box_keep (w := w) (w1 := w1) (cs := #[.int .i64 4, .bool false, .int .u64 m, .int .i64 x]) 2 (v := .int .u64 m) rfl; have c3 := box_keep (w := w) (w1 := w1) (cs := #[.int .i64 4, .bool false, .int .u64 m, .int .i64 x]) 3 (v := .int .i64 x) rfl) | (go_at_call 42; refine use (nan_calls _) ?_; rintro e w2 ⟨rfl, rfl⟩))
  go_ret2
  exact ⟨_, HN _, rfl, Step.of⟩
end Tt
