/- FloatSplits: the walk of the law. -/
import Derived.Test.YtjjnhmcoodahgaaDoorFlO
namespace Tt
open Go Go.RowKit Go.Proofs
set_option linter.unusedSimpArgs false
set_option linter.unusedVariables false
set_option maxRecDepth 100000

theorem lnames_calls (w : World) : Calls Tryd.prog 6 #[] w (RetX w (.bool true)) := by
  go_enter Tryd.func6, Tryd.ntmps6
  go_wp2
  go_ret
  exact ⟨rfl, rfl⟩
theorem split_one : splitW 4607182418800017408 = #[.int .i64 2, .bool false, .int .u64 4503599627370496, .int .i64 (-52)] := by
  unfold splitW partsC
  rfl
set_option maxHeartbeats 8000000 in
theorem splits_calls (bn cn : Nat) (hb : bn < 18446744073709551616) (hc : cn < 4294967296) (k : Int) (neg : Bool) (m x : Int) (h0 : 0 ≤ m) (h1 : m < 18446744073709551616) (w : World) (G : Globs w) :
    Calls Tryd.prog 3 #[.int .u64 bn, .int .u32 cn, partsV k neg m x] w (RetV w (.bool true)) := by
  obtain ⟨k1, n1, m1, x1, e1⟩ := parts_shape 2047 4503599627370496 (-1074) ((bn : Int) / 4503599627370496 % 2048) ((bn : Int) % 4503599627370496) (decide (9223372036854775808 ≤ (bn : Int)))
  obtain ⟨k2, n2, m2, x2, e2⟩ := parts_shape 255 8388608 (-149) ((cn : Int) / 8388608 % 256) ((cn : Int) % 8388608) (decide (2147483648 ≤ (cn : Int)))
  have hs1 := fun w G => split_calls bn hb w G _ e1
  have hs2 := fun w G => split32_calls cn hc w G _ e2
  have hs3 := fun w => rsplitW_calls bn (by omega) (by omega) w _ e1
  have hs4 := fun w => rsplitS_calls cn (by omega) (by omega) w _ e2
  have hs5 := fun w G => split_calls 4607182418800017408 (by omega) w G _ split_one
  have hf1 : ∀ w, (callFunc 8 #[.int .u64 (bn : Int)]).run Tryd.prog w = .ok (.value (.float .f64 bn)) w := fun w => by simpa using f64frombits bn w
  have hf2 : ∀ w, (callFunc 12 #[.int .u32 (cn : Int)]).run Tryd.prog w = .ok (.value (.float .f32 cn)) w := fun w => by simpa using f32frombits cn w
  have hcn : IntKind.u64.wrap (cn : Int) = cn := by simp [IntKind.wrap, IntKind.bits, IntKind.signed]; omega
  have hw := wide_calls
  have hsm := small_calls
  obtain ⟨r, e, hok⟩ : ∃ r e : Int, (splitW (jbW k neg m x) = #[.int .i64 k, .bool neg, .int .u64 m, .int .i64 x] ∧ r = jbW k neg m x ∧ e = 0) ∨ (splitW (jbW k neg m x) ≠ #[.int .i64 k, .bool neg, .int .u64 m, .int .i64 x] ∧ r = 0 ∧ e = 21) := by
    by_cases h : splitW (jbW k neg m x) = #[.int .i64 k, .bool neg, .int .u64 m, .int .i64 x]
    · exact ⟨_, _, .inl ⟨h, rfl, rfl⟩⟩
    · exact ⟨_, _, .inr ⟨h, rfl, rfl⟩⟩
  obtain ⟨r2, e', hok2⟩ : ∃ r e : Int, (splitS (jbS k neg m x) = #[.int .i64 k, .bool neg, .int .u64 m, .int .i64 x] ∧ r = jbS k neg m x ∧ e = 0) ∨ (splitS (jbS k neg m x) ≠ #[.int .i64 k, .bool neg, .int .u64 m, .int .i64 x] ∧ r = 0 ∧ e = 21) := by
    by_cases h : splitS (jbS k neg m x) = #[.int .i64 k, .bool neg, .int .u64 m, .int .i64 x]
    · exact ⟨_, _, .inl ⟨h, rfl, rfl⟩⟩
    · exact ⟨_, _, .inr ⟨h, rfl, rfl⟩⟩
  have hj1 := fun w G => join_calls k neg m x h0 h1 w G r e hok
  have hj2 := fun w G => join32_calls k neg m x h0 h1 w G r2 e' hok2
  have hj3 := fun w => rjoinW_calls k neg m x h0 h1 w r e hok
  have hj4 := fun w => rjoinS_calls k neg m x h0 h1 w r2 e' hok2
  clear hok hok2 e1 e2
  unfold partsV wideV smallV at *
  have HS1 := Lib.hid hs1; clear hs1
  have HS2 := Lib.hid hs2; clear hs2
  have hsp : ∀ (w : World) (z v : Value) (cs : Array Value), (z = .agg #[.int .i64 53, .int .i64 (-1074), .int .i64 971, .int .i64 52] ∧ v = .int .u64 bn ∧ cs = #[.int .i64 k1, .bool n1, .int .u64 m1, .int .i64 x1]) ∨ (z = .agg #[.int .i64 24, .int .i64 (-149), .int .i64 104, .int .i64 23] ∧ v = .int .u64 cn ∧ cs = #[.int .i64 k2, .bool n2, .int .u64 m2, .int .i64 x2]) →
      Calls Tryd.prog 10 #[z, v] w (RetV w (.agg cs)) := by
    rintro w z v cs (⟨rfl, rfl, rfl⟩ | ⟨rfl, rfl, rfl⟩)
    · exact hs3 w
    · exact hs4 w
  have HSP := Lib.hid hsp; clear hsp hs3 hs4
  have HS5 := Lib.hid hs5; clear hs5
  have HJ1 := Lib.hid hj1; clear hj1
  have HJ2 := Lib.hid hj2; clear hj2
  have HJ3 := Lib.hid hj3; clear hj3
  have HJ4 := Lib.hid hj4; clear hj4
  have hu := Tryd.underlying25
  have HG := Lib.hid G; clear G
  go_enter Tryd.func3, Tryd.ntmps3
  go_upto_region 5 with (first
    | (go_at_call 6; refine use (lnames_calls _) ?_; rintro e w0 ⟨rfl, rfl⟩)
    | (go_at_call 7; refine use (HS1.out _ (Globs.ext HG.out)) ?_; rintro e w1 ⟨rfl, t1⟩; have c0 : w1.cell? ⟨w.heap.size, 0, none⟩ = some (.int .i64 k) := box_keep (w := w) (w1 := w1) (cs := #[.int .i64 k, .bool neg, .int .u64 m, .int .i64 x]) 0 rfl; have c1 : w1.cell? ⟨w.heap.size, 1, none⟩ = some (.bool neg) := box_keep (w := w) (w1 := w1) (cs := #[.int .i64 k, .bool neg, .int .u64 m, .int .i64 x]) 1 rfl; have c2 : w1.cell? ⟨w.heap.size, 2, none⟩ = some (.int .u64 m) := box_keep (w := w) (w1 := w1) (cs := #[.int .i64 k, .bool neg, .int .u64 m, .int .i64 x]) 2 rfl; have c3 : w1.cell? ⟨w.heap.size, 3, none⟩ = some (.int .i64 x) := box_keep (w := w) (w1 := w1) (cs := #[.int .i64 k, .bool neg, .int .u64 m, .int .i64 x]) 3 rfl)
    | (go_at_call 9; refine use (hw _) ?_; rintro e w2 ⟨rfl, t2⟩; have c0 := cell_keep (h := t2) c0; have c1 := cell_keep (h := t2) c1; have c2 := cell_keep (h := t2) c2; have c3 := cell_keep (h := t2) c3)
    | (go_at_call 13; refine use (hsm _) ?_; rintro e w2 ⟨rfl, t2⟩; have c0 := cell_keep (h := t2) c0; have c1 := cell_keep (h := t2) c1; have c2 := cell_keep (h := t2) c2; have c3 := cell_keep (h := t2) c3)
    | (go_at_call 10; refine use (HSP.out _ _ _ _ (by first | exact .inl ⟨rfl, rfl, rfl⟩ | exact .inr ⟨rfl, rfl, rfl⟩)) ?_; rintro e w3 ⟨rfl, t3⟩; have c0 := cell_keep (h := t3) c0; have c1 := cell_keep (h := t3) c1; have c2 := cell_keep (h := t3) c2; have c3 := cell_keep (h := t3) c3)
    | (go_at_call 11; refine use (HS2.out _ (Globs.ext HG.out)) ?_; rintro e w2 ⟨rfl, t2⟩; have c0 := cell_keep (h := t2) c0; have c1 := cell_keep (h := t2) c1; have c2 := cell_keep (h := t2) c2; have c3 := cell_keep (h := t2) c3))
  go_upto_region 7 with (first
    | (go_at_call 14; refine use (HJ1.out _ (Globs.ext HG.out)) ?_; rintro e w4 ⟨fb, rfl, hfb, t4⟩; have HF1 := Lib.hid hfb; clear hfb; have c0 := cell_keep (h := t4) c0; have c1 := cell_keep (h := t4) c1; have c2 := cell_keep (h := t4) c2; have c3 := cell_keep (h := t4) c3)
    | (go_at_call 15; refine use (HJ2.out _ (Globs.ext HG.out)) ?_; rintro e w5 ⟨fb2, rfl, hfb2, hlt2, t5⟩; have HF2 := Lib.hid hfb2; clear hfb2; have HL2 := Lib.hid hlt2; clear hlt2; have c0 := cell_keep (h := t5) c0; have c1 := cell_keep (h := t5) c1; have c2 := cell_keep (h := t5) c2; have c3 := cell_keep (h := t5) c3; obtain ⟨⟨g0, g1, g2⟩, ⟨s0, s1, s2⟩⟩ := Globs.ext (b := w5) HG.out))
  go_region_held3 (fun w' => w'.cell? ⟨w.heap.size, 0, none⟩ = some (.int .i64 k) ∧ w'.cell? ⟨w.heap.size, 1, none⟩ = some (.bool neg) ∧ w'.cell? ⟨w.heap.size, 2, none⟩ = some (.int .u64 m) ∧ w'.cell? ⟨w.heap.size, 3, none⟩ = some (.int .i64 x) ∧ w'.cell? ⟨0, 0, none⟩ = some (.int .u64 53) ∧ w'.cell? ⟨0, 1, none⟩ = some (.int .i64 (-1074)) ∧ w'.cell? ⟨0, 2, none⟩ = some (.int .i64 971) ∧ w'.cell? ⟨2, 0, none⟩ = some (.int .u64 24) ∧ w'.cell? ⟨2, 1, none⟩ = some (.int .i64 (-149)) ∧ w'.cell? ⟨2, 2, none⟩ = some (.int .i64 104)) (first | go_keep | exact ⟨cell_keep (by simp [*, go_sem]), cell_keep (by simp [*, go_sem]), cell_keep (by simp [*, go_sem]), cell_keep (by simp [*, go_sem]), cell_keep (by simp [*, go_sem]), cell_keep (by simp [*, go_sem]), cell_keep (by simp [*, go_sem]), cell_keep (by simp [*, go_sem]), cell_keep (by simp [*, go_sem]), cell_keep (by simp [*, go_sem])⟩) (first | (go_at_call 9; refine use (hw _) ?_; rintro e w2 ⟨rfl, t2⟩) | (go_at_call 16; refine use (HJ3.out _) ?_; rintro e w2 ⟨rfl, t2⟩))
  go_upto_region 8 with (fail)
  go_region_held3 (fun w' => w'.cell? ⟨w.heap.size, 0, none⟩ = some (.int .i64 k) ∧ w'.cell? ⟨w.heap.size, 1, none⟩ = some (.bool neg) ∧ w'.cell? ⟨w.heap.size, 2, none⟩ = some (.int .u64 m) ∧ w'.cell? ⟨w.heap.size, 3, none⟩ = some (.int .i64 x) ∧ w'.cell? ⟨0, 0, none⟩ = some (.int .u64 53) ∧ w'.cell? ⟨0, 1, none⟩ = some (.int .i64 (-1074)) ∧ w'.cell? ⟨0, 2, none⟩ = some (.int .i64 971) ∧ w'.cell? ⟨2, 0, none⟩ = some (.int .u64 24) ∧ w'.cell? ⟨2, 1, none⟩ = some (.int .i64 (-149)) ∧ w'.cell? ⟨2, 2, none⟩ = some (.int .i64 104)) (first | go_keep | exact ⟨cell_keep (by simp [*, go_sem]), cell_keep (by simp [*, go_sem]), cell_keep (by simp [*, go_sem]), cell_keep (by simp [*, go_sem]), cell_keep (by simp [*, go_sem]), cell_keep (by simp [*, go_sem]), cell_keep (by simp [*, go_sem]), cell_keep (by simp [*, go_sem]), cell_keep (by simp [*, go_sem]), cell_keep (by simp [*, go_sem])⟩) (first | (go_at_call 13; refine use (hsm _) ?_; rintro e w2 ⟨rfl, t2⟩) | (go_at_call 16; refine use (HJ4.out _) ?_; rintro e w2 ⟨rfl, t2⟩))
  go_wp2_with (first
    | (go_at_call 17; refine use (is_calls fb r HF1.out _) ?_; rintro e w6 ⟨rfl, t6⟩)
    | (go_at_call 18; refine use (is32_calls fb2 r2 HL2.out HF2.out _) ?_; rintro e w6 ⟨rfl, t6⟩)
    | (go_at_call 7; refine use (HS5.out _ (Globs.ext HG.out)) ?_; rintro e w6 ⟨rfl, t6⟩))
  go_ret
  exact ⟨rfl, Step.of⟩
end Tt
