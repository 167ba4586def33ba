/- Floats by their bits: Order, Same, Steps of the document. -/
import Derived.Test.YtjjnhmcoodahgaaDoorFlU
namespace Tt
open Go Go.RowKit Go.Proofs
set_option linter.unusedSimpArgs false
set_option linter.unusedVariables false
set_option maxRecDepth 100000

set_option maxHeartbeats 8000000 in
theorem rorder_calls (x y : Nat) (hx : x < 18446744073709551616) (hy : y < 18446744073709551616) (w : World) (r : Int) (hr : OrdR x y r) : Calls Tryd.prog 24 #[.int .u64 x, .int .u64 y] w (RetV w (.int .i64 r)) := by
  have hw := wide_calls
  have hu := Tryd.underlying31
  obtain ⟨X, hX⟩ : ∃ X : Int, X = x := ⟨_, rfl⟩
  obtain ⟨Y, hY⟩ : ∃ Y : Int, Y = y := ⟨_, rfl⟩
  have hp' : ∀ w (v p : Int), (v = X ∧ p = plc x) ∨ (v = Y ∧ p = plc y) → Calls Tryd.prog 51 #[.int .u64 v] w (RetX w (.int .i64 p)) := by
    rintro w v q (⟨rfl, rfl⟩ | ⟨rfl, rfl⟩)
    · rw [hX]; exact rplace_calls x hx w _ rfl
    · rw [hY]; exact rplace_calls y hy w _ rfl
  have HP := Lib.hid hp'; clear hp'
  have hg0 := fun w v h => wneg_calls X (by omega) (by omega) w v h
  unfold wideV at hw hg0
  rw [← hX, ← hY]
  rcases hr with ⟨nx, ny, rfl⟩ | ⟨nx, ny, rfl⟩ | ⟨nx, ny, rfl⟩ | ⟨nx, ny, hp, rfl⟩ | ⟨nx, ny, hp, rfl⟩ | ⟨nx, ny, hp, rfl⟩ | ⟨nx, ny, hp, hq, rfl⟩ | ⟨nx, ny, hp, hq, rfl⟩
  · skip
    have hn : ∀ w v q, (v = x ∧ q = true) ∨ (v = y ∧ q = true) → Calls Tryd.prog 49 #[wideV, .int .u64 (v : Nat)] w (RetV w (.bool q)) := by
      rintro w v q (⟨rfl, rfl⟩ | ⟨rfl, rfl⟩)
      · exact wisnone_calls _ (by omega) (by omega) w _ (nan_bt nx)
      · exact wisnone_calls _ (by omega) (by omega) w _ (nan_bt ny)
    unfold wideV at hn
    have hn' : ∀ w (v : Int) q, (v = X ∧ q = true) ∨ (v = Y ∧ q = true) → Calls Tryd.prog 49 #[.agg #[.int .i64 53, .int .i64 (-1074), .int .i64 971, .int .i64 52], .int .u64 v] w (RetV w (.bool q)) := by
      rintro w v q (⟨rfl, rfl⟩ | ⟨rfl, rfl⟩)
      · rw [hX]; exact hn w x _ (.inl ⟨rfl, rfl⟩)
      · rw [hY]; exact hn w y _ (.inr ⟨rfl, rfl⟩)
    have HN := Lib.hid hn'; clear hn hn'
    clear hg0 hX hY hx hy nx ny
    go_enter Tryd.func24, Tryd.ntmps24
    go_wp2_with (first | (go_at_call 9; refine use (hw _) ?_; rintro e w1 ⟨rfl, hs1⟩) | (go_at_call 49; refine use (HN.out _ _ _ (by first | exact .inl ⟨rfl, rfl⟩ | exact .inr ⟨rfl, rfl⟩)) ?_; rintro e w2 ⟨rfl, hs2⟩; have d0 := box_keep (h := hs2) 0 (v := .int .i64 53) rfl; have d1 := box_keep (h := hs2) 1 (v := .int .i64 (-1074)) rfl; have d2 := box_keep (h := hs2) 2 (v := .int .i64 971) rfl; have d3 := box_keep (h := hs2) 3 (v := .int .i64 52) rfl) | (go_at_call 49; refine use (HN.out _ _ _ (by first | exact .inl ⟨rfl, rfl⟩ | exact .inr ⟨rfl, rfl⟩)) ?_; rintro e w2 ⟨rfl, hs2⟩; have d0 := cell_keep (h := hs2) d0; have d1 := cell_keep (h := hs2) d1; have d2 := cell_keep (h := hs2) d2; have d3 := cell_keep (h := hs2) d3) | (go_at_call 51; refine use (HP.out _ _ _ (by first | exact .inl ⟨rfl, rfl⟩ | exact .inr ⟨rfl, rfl⟩)) ?_; rintro e w1 ⟨rfl, rfl⟩) | (go_at_call 38; refine use (hg _) ?_; rintro e w3 ⟨rfl, rfl⟩))
    go_ret
    exact ⟨rfl, Step.of⟩
  · skip
    have hn : ∀ w v q, (v = x ∧ q = true) ∨ (v = y ∧ q = false) → Calls Tryd.prog 49 #[wideV, .int .u64 (v : Nat)] w (RetV w (.bool q)) := by
      rintro w v q (⟨rfl, rfl⟩ | ⟨rfl, rfl⟩)
      · exact wisnone_calls _ (by omega) (by omega) w _ (nan_bt nx)
      · exact wisnone_calls _ (by omega) (by omega) w _ (nan_bf hy ny)
    unfold wideV at hn
    have hn' : ∀ w (v : Int) q, (v = X ∧ q = true) ∨ (v = Y ∧ q = false) → Calls Tryd.prog 49 #[.agg #[.int .i64 53, .int .i64 (-1074), .int .i64 971, .int .i64 52], .int .u64 v] w (RetV w (.bool q)) := by
      rintro w v q (⟨rfl, rfl⟩ | ⟨rfl, rfl⟩)
      · rw [hX]; exact hn w x _ (.inl ⟨rfl, rfl⟩)
      · rw [hY]; exact hn w y _ (.inr ⟨rfl, rfl⟩)
    have HN := Lib.hid hn'; clear hn hn'
    clear hg0 hX hY hx hy nx ny
    go_enter Tryd.func24, Tryd.ntmps24
    go_wp2_with (first | (go_at_call 9; refine use (hw _) ?_; rintro e w1 ⟨rfl, hs1⟩) | (go_at_call 49; refine use (HN.out _ _ _ (by first | exact .inl ⟨rfl, rfl⟩ | exact .inr ⟨rfl, rfl⟩)) ?_; rintro e w2 ⟨rfl, hs2⟩; have d0 := box_keep (h := hs2) 0 (v := .int .i64 53) rfl; have d1 := box_keep (h := hs2) 1 (v := .int .i64 (-1074)) rfl; have d2 := box_keep (h := hs2) 2 (v := .int .i64 971) rfl; have d3 := box_keep (h := hs2) 3 (v := .int .i64 52) rfl) | (go_at_call 49; refine use (HN.out _ _ _ (by first | exact .inl ⟨rfl, rfl⟩ | exact .inr ⟨rfl, rfl⟩)) ?_; rintro e w2 ⟨rfl, hs2⟩; have d0 := cell_keep (h := hs2) d0; have d1 := cell_keep (h := hs2) d1; have d2 := cell_keep (h := hs2) d2; have d3 := cell_keep (h := hs2) d3) | (go_at_call 51; refine use (HP.out _ _ _ (by first | exact .inl ⟨rfl, rfl⟩ | exact .inr ⟨rfl, rfl⟩)) ?_; rintro e w1 ⟨rfl, rfl⟩) | (go_at_call 38; refine use (hg _) ?_; rintro e w3 ⟨rfl, rfl⟩))
    go_ret
    exact ⟨rfl, Step.of⟩
  · skip
    have hn : ∀ w v q, (v = x ∧ q = false) ∨ (v = y ∧ q = true) → Calls Tryd.prog 49 #[wideV, .int .u64 (v : Nat)] w (RetV w (.bool q)) := by
      rintro w v q (⟨rfl, rfl⟩ | ⟨rfl, rfl⟩)
      · exact wisnone_calls _ (by omega) (by omega) w _ (nan_bf hx nx)
      · exact wisnone_calls _ (by omega) (by omega) w _ (nan_bt ny)
    unfold wideV at hn
    have hn' : ∀ w (v : Int) q, (v = X ∧ q = false) ∨ (v = Y ∧ q = true) → Calls Tryd.prog 49 #[.agg #[.int .i64 53, .int .i64 (-1074), .int .i64 971, .int .i64 52], .int .u64 v] w (RetV w (.bool q)) := by
      rintro w v q (⟨rfl, rfl⟩ | ⟨rfl, rfl⟩)
      · rw [hX]; exact hn w x _ (.inl ⟨rfl, rfl⟩)
      · rw [hY]; exact hn w y _ (.inr ⟨rfl, rfl⟩)
    have HN := Lib.hid hn'; clear hn hn'
    clear hg0 hX hY hx hy nx ny
    go_enter Tryd.func24, Tryd.ntmps24
    go_wp2_with (first | (go_at_call 9; refine use (hw _) ?_; rintro e w1 ⟨rfl, hs1⟩) | (go_at_call 49; refine use (HN.out _ _ _ (by first | exact .inl ⟨rfl, rfl⟩ | exact .inr ⟨rfl, rfl⟩)) ?_; rintro e w2 ⟨rfl, hs2⟩; have d0 := box_keep (h := hs2) 0 (v := .int .i64 53) rfl; have d1 := box_keep (h := hs2) 1 (v := .int .i64 (-1074)) rfl; have d2 := box_keep (h := hs2) 2 (v := .int .i64 971) rfl; have d3 := box_keep (h := hs2) 3 (v := .int .i64 52) rfl) | (go_at_call 49; refine use (HN.out _ _ _ (by first | exact .inl ⟨rfl, rfl⟩ | exact .inr ⟨rfl, rfl⟩)) ?_; rintro e w2 ⟨rfl, hs2⟩; have d0 := cell_keep (h := hs2) d0; have d1 := cell_keep (h := hs2) d1; have d2 := cell_keep (h := hs2) d2; have d3 := cell_keep (h := hs2) d3) | (go_at_call 51; refine use (HP.out _ _ _ (by first | exact .inl ⟨rfl, rfl⟩ | exact .inr ⟨rfl, rfl⟩)) ?_; rintro e w1 ⟨rfl, rfl⟩) | (go_at_call 38; refine use (hg _) ?_; rintro e w3 ⟨rfl, rfl⟩))
    go_ret
    exact ⟨rfl, Step.of⟩
  · skip
    have hn : ∀ w v q, (v = x ∧ q = false) ∨ (v = y ∧ q = false) → Calls Tryd.prog 49 #[wideV, .int .u64 (v : Nat)] w (RetV w (.bool q)) := by
      rintro w v q (⟨rfl, rfl⟩ | ⟨rfl, rfl⟩)
      · exact wisnone_calls _ (by omega) (by omega) w _ (nan_bf hx nx)
      · exact wisnone_calls _ (by omega) (by omega) w _ (nan_bf hy ny)
    unfold wideV at hn
    have hn' : ∀ w (v : Int) q, (v = X ∧ q = false) ∨ (v = Y ∧ q = false) → Calls Tryd.prog 49 #[.agg #[.int .i64 53, .int .i64 (-1074), .int .i64 971, .int .i64 52], .int .u64 v] w (RetV w (.bool q)) := by
      rintro w v q (⟨rfl, rfl⟩ | ⟨rfl, rfl⟩)
      · rw [hX]; exact hn w x _ (.inl ⟨rfl, rfl⟩)
      · rw [hY]; exact hn w y _ (.inr ⟨rfl, rfl⟩)
    have HN := Lib.hid hn'; clear hn hn'
    clear hg0 hX hY hx hy nx ny
    generalize plc x = px at *
    generalize plc y = py at *
    go_enter Tryd.func24, Tryd.ntmps24
    go_wp2_with (first | (go_at_call 9; refine use (hw _) ?_; rintro e w1 ⟨rfl, hs1⟩) | (go_at_call 49; refine use (HN.out _ _ _ (by first | exact .inl ⟨rfl, rfl⟩ | exact .inr ⟨rfl, rfl⟩)) ?_; rintro e w2 ⟨rfl, hs2⟩; have d0 := box_keep (h := hs2) 0 (v := .int .i64 53) rfl; have d1 := box_keep (h := hs2) 1 (v := .int .i64 (-1074)) rfl; have d2 := box_keep (h := hs2) 2 (v := .int .i64 971) rfl; have d3 := box_keep (h := hs2) 3 (v := .int .i64 52) rfl) | (go_at_call 49; refine use (HN.out _ _ _ (by first | exact .inl ⟨rfl, rfl⟩ | exact .inr ⟨rfl, rfl⟩)) ?_; rintro e w2 ⟨rfl, hs2⟩; have d0 := cell_keep (h := hs2) d0; have d1 := cell_keep (h := hs2) d1; have d2 := cell_keep (h := hs2) d2; have d3 := cell_keep (h := hs2) d3) | (go_at_call 51; refine use (HP.out _ _ _ (by first | exact .inl ⟨rfl, rfl⟩ | exact .inr ⟨rfl, rfl⟩)) ?_; rintro e w1 ⟨rfl, rfl⟩) | (go_at_call 38; refine use (hg _) ?_; rintro e w3 ⟨rfl, rfl⟩))
    go_ret
    exact ⟨rfl, Step.of⟩
  · skip
    have hn : ∀ w v q, (v = x ∧ q = false) ∨ (v = y ∧ q = false) → Calls Tryd.prog 49 #[wideV, .int .u64 (v : Nat)] w (RetV w (.bool q)) := by
      rintro w v q (⟨rfl, rfl⟩ | ⟨rfl, rfl⟩)
      · exact wisnone_calls _ (by omega) (by omega) w _ (nan_bf hx nx)
      · exact wisnone_calls _ (by omega) (by omega) w _ (nan_bf hy ny)
    unfold wideV at hn
    have hn' : ∀ w (v : Int) q, (v = X ∧ q = false) ∨ (v = Y ∧ q = false) → Calls Tryd.prog 49 #[.agg #[.int .i64 53, .int .i64 (-1074), .int .i64 971, .int .i64 52], .int .u64 v] w (RetV w (.bool q)) := by
      rintro w v q (⟨rfl, rfl⟩ | ⟨rfl, rfl⟩)
      · rw [hX]; exact hn w x _ (.inl ⟨rfl, rfl⟩)
      · rw [hY]; exact hn w y _ (.inr ⟨rfl, rfl⟩)
    have HN := Lib.hid hn'; clear hn hn'
    clear hg0 hX hY hx hy nx ny
    generalize plc x = px at *
    generalize plc y = py at *
    go_enter Tryd.func24, Tryd.ntmps24
    go_wp2_with (first | (go_at_call 9; refine use (hw _) ?_; rintro e w1 ⟨rfl, hs1⟩) | (go_at_call 49; refine use (HN.out _ _ _ (by first | exact .inl ⟨rfl, rfl⟩ | exact .inr ⟨rfl, rfl⟩)) ?_; rintro e w2 ⟨rfl, hs2⟩; have d0 := box_keep (h := hs2) 0 (v := .int .i64 53) rfl; have d1 := box_keep (h := hs2) 1 (v := .int .i64 (-1074)) rfl; have d2 := box_keep (h := hs2) 2 (v := .int .i64 971) rfl; have d3 := box_keep (h := hs2) 3 (v := .int .i64 52) rfl) | (go_at_call 49; refine use (HN.out _ _ _ (by first | exact .inl ⟨rfl, rfl⟩ | exact .inr ⟨rfl, rfl⟩)) ?_; rintro e w2 ⟨rfl, hs2⟩; have d0 := cell_keep (h := hs2) d0; have d1 := cell_keep (h := hs2) d1; have d2 := cell_keep (h := hs2) d2; have d3 := cell_keep (h := hs2) d3) | (go_at_call 51; refine use (HP.out _ _ _ (by first | exact .inl ⟨rfl, rfl⟩ | exact .inr ⟨rfl, rfl⟩)) ?_; rintro e w1 ⟨rfl, rfl⟩) | (go_at_call 38; refine use (hg _) ?_; rintro e w3 ⟨rfl, rfl⟩))
    go_ret
    exact ⟨rfl, Step.of⟩
  · have hpe : plc x = plc y := by rw [hp]
    have f1 : (X == Y) = true := beq_t (by omega)
    have hn : ∀ w v q, (v = x ∧ q = false) ∨ (v = y ∧ q = false) → Calls Tryd.prog 49 #[wideV, .int .u64 (v : Nat)] w (RetV w (.bool q)) := by
      rintro w v q (⟨rfl, rfl⟩ | ⟨rfl, rfl⟩)
      · exact wisnone_calls _ (by omega) (by omega) w _ (nan_bf hx nx)
      · exact wisnone_calls _ (by omega) (by omega) w _ (nan_bf hy ny)
    unfold wideV at hn
    have hn' : ∀ w (v : Int) q, (v = X ∧ q = false) ∨ (v = Y ∧ q = false) → Calls Tryd.prog 49 #[.agg #[.int .i64 53, .int .i64 (-1074), .int .i64 971, .int .i64 52], .int .u64 v] w (RetV w (.bool q)) := by
      rintro w v q (⟨rfl, rfl⟩ | ⟨rfl, rfl⟩)
      · rw [hX]; exact hn w x _ (.inl ⟨rfl, rfl⟩)
      · rw [hY]; exact hn w y _ (.inr ⟨rfl, rfl⟩)
    have HN := Lib.hid hn'; clear hn hn'
    clear hg0 hX hY hx hy nx ny hp
    rw [hpe] at HP
    generalize plc y = py at *
    clear hpe
    go_enter Tryd.func24, Tryd.ntmps24
    go_wp2_with (first | (go_at_call 9; refine use (hw _) ?_; rintro e w1 ⟨rfl, hs1⟩) | (go_at_call 49; refine use (HN.out _ _ _ (by first | exact .inl ⟨rfl, rfl⟩ | exact .inr ⟨rfl, rfl⟩)) ?_; rintro e w2 ⟨rfl, hs2⟩; have d0 := box_keep (h := hs2) 0 (v := .int .i64 53) rfl; have d1 := box_keep (h := hs2) 1 (v := .int .i64 (-1074)) rfl; have d2 := box_keep (h := hs2) 2 (v := .int .i64 971) rfl; have d3 := box_keep (h := hs2) 3 (v := .int .i64 52) rfl) | (go_at_call 49; refine use (HN.out _ _ _ (by first | exact .inl ⟨rfl, rfl⟩ | exact .inr ⟨rfl, rfl⟩)) ?_; rintro e w2 ⟨rfl, hs2⟩; have d0 := cell_keep (h := hs2) d0; have d1 := cell_keep (h := hs2) d1; have d2 := cell_keep (h := hs2) d2; have d3 := cell_keep (h := hs2) d3) | (go_at_call 51; refine use (HP.out _ _ _ (by first | exact .inl ⟨rfl, rfl⟩ | exact .inr ⟨rfl, rfl⟩)) ?_; rintro e w1 ⟨rfl, rfl⟩) | (go_at_call 38; refine use (hg _) ?_; rintro e w3 ⟨rfl, rfl⟩))
    go_ret
    exact ⟨rfl, Step.of⟩
  · have hpe : plc x = plc y := by rw [hp, hq]; decide
    have hg := fun w => hg0 w true (decide_eq_true (by omega))
    have f1 : (X == Y) = false := beq_f (by omega)
    have hn : ∀ w v q, (v = x ∧ q = false) ∨ (v = y ∧ q = false) → Calls Tryd.prog 49 #[wideV, .int .u64 (v : Nat)] w (RetV w (.bool q)) := by
      rintro w v q (⟨rfl, rfl⟩ | ⟨rfl, rfl⟩)
      · exact wisnone_calls _ (by omega) (by omega) w _ (nan_bf hx nx)
      · exact wisnone_calls _ (by omega) (by omega) w _ (nan_bf hy ny)
    unfold wideV at hn
    have hn' : ∀ w (v : Int) q, (v = X ∧ q = false) ∨ (v = Y ∧ q = false) → Calls Tryd.prog 49 #[.agg #[.int .i64 53, .int .i64 (-1074), .int .i64 971, .int .i64 52], .int .u64 v] w (RetV w (.bool q)) := by
      rintro w v q (⟨rfl, rfl⟩ | ⟨rfl, rfl⟩)
      · rw [hX]; exact hn w x _ (.inl ⟨rfl, rfl⟩)
      · rw [hY]; exact hn w y _ (.inr ⟨rfl, rfl⟩)
    have HN := Lib.hid hn'; clear hn hn'
    clear hg0 hX hY hx hy nx ny hp hq
    rw [hpe] at HP
    generalize plc y = py at *
    clear hpe
    go_enter Tryd.func24, Tryd.ntmps24
    go_wp2_with (first | (go_at_call 9; refine use (hw _) ?_; rintro e w1 ⟨rfl, hs1⟩) | (go_at_call 49; refine use (HN.out _ _ _ (by first | exact .inl ⟨rfl, rfl⟩ | exact .inr ⟨rfl, rfl⟩)) ?_; rintro e w2 ⟨rfl, hs2⟩; have d0 := box_keep (h := hs2) 0 (v := .int .i64 53) rfl; have d1 := box_keep (h := hs2) 1 (v := .int .i64 (-1074)) rfl; have d2 := box_keep (h := hs2) 2 (v := .int .i64 971) rfl; have d3 := box_keep (h := hs2) 3 (v := .int .i64 52) rfl) | (go_at_call 49; refine use (HN.out _ _ _ (by first | exact .inl ⟨rfl, rfl⟩ | exact .inr ⟨rfl, rfl⟩)) ?_; rintro e w2 ⟨rfl, hs2⟩; have d0 := cell_keep (h := hs2) d0; have d1 := cell_keep (h := hs2) d1; have d2 := cell_keep (h := hs2) d2; have d3 := cell_keep (h := hs2) d3) | (go_at_call 51; refine use (HP.out _ _ _ (by first | exact .inl ⟨rfl, rfl⟩ | exact .inr ⟨rfl, rfl⟩)) ?_; rintro e w1 ⟨rfl, rfl⟩) | (go_at_call 38; refine use (hg _) ?_; rintro e w3 ⟨rfl, rfl⟩))
    go_ret
    exact ⟨rfl, Step.of⟩
  · have hpe : plc x = plc y := by rw [hp, hq]; decide
    have hg := fun w => hg0 w false (decide_eq_false (by omega))
    have f1 : (X == Y) = false := beq_f (by omega)
    have hn : ∀ w v q, (v = x ∧ q = false) ∨ (v = y ∧ q = false) → Calls Tryd.prog 49 #[wideV, .int .u64 (v : Nat)] w (RetV w (.bool q)) := by
      rintro w v q (⟨rfl, rfl⟩ | ⟨rfl, rfl⟩)
      · exact wisnone_calls _ (by omega) (by omega) w _ (nan_bf hx nx)
      · exact wisnone_calls _ (by omega) (by omega) w _ (nan_bf hy ny)
    unfold wideV at hn
    have hn' : ∀ w (v : Int) q, (v = X ∧ q = false) ∨ (v = Y ∧ q = false) → Calls Tryd.prog 49 #[.agg #[.int .i64 53, .int .i64 (-1074), .int .i64 971, .int .i64 52], .int .u64 v] w (RetV w (.bool q)) := by
      rintro w v q (⟨rfl, rfl⟩ | ⟨rfl, rfl⟩)
      · rw [hX]; exact hn w x _ (.inl ⟨rfl, rfl⟩)
      · rw [hY]; exact hn w y _ (.inr ⟨rfl, rfl⟩)
    have HN := Lib.hid hn'; clear hn hn'
    clear hg0 hX hY hx hy nx ny hp hq
    rw [hpe] at HP
    generalize plc y = py at *
    clear hpe
    go_enter Tryd.func24, Tryd.ntmps24
    go_wp2_with (first | (go_at_call 9; refine use (hw _) ?_; rintro e w1 ⟨rfl, hs1⟩) | (go_at_call 49; refine use (HN.out _ _ _ (by first | exact .inl ⟨rfl, rfl⟩ | exact .inr ⟨rfl, rfl⟩)) ?_; rintro e w2 ⟨rfl, hs2⟩; have d0 := box_keep (h := hs2) 0 (v := .int .i64 53) rfl; have d1 := box_keep (h := hs2) 1 (v := .int .i64 (-1074)) rfl; have d2 := box_keep (h := hs2) 2 (v := .int .i64 971) rfl; have d3 := box_keep (h := hs2) 3 (v := .int .i64 52) rfl) | (go_at_call 49; refine use (HN.out _ _ _ (by first | exact .inl ⟨rfl, rfl⟩ | exact .inr ⟨rfl, rfl⟩)) ?_; rintro e w2 ⟨rfl, hs2⟩; have d0 := cell_keep (h := hs2) d0; have d1 := cell_keep (h := hs2) d1; have d2 := cell_keep (h := hs2) d2; have d3 := cell_keep (h := hs2) d3) | (go_at_call 51; refine use (HP.out _ _ _ (by first | exact .inl ⟨rfl, rfl⟩ | exact .inr ⟨rfl, rfl⟩)) ?_; rintro e w1 ⟨rfl, rfl⟩) | (go_at_call 38; refine use (hg _) ?_; rintro e w3 ⟨rfl, rfl⟩))
    go_ret
    exact ⟨rfl, Step.of⟩
theorem rsame_calls (x y : Nat) (hx : x < 18446744073709551616) (hy : y < 18446744073709551616) (w : World) (r : Int) (hr : OrdR x y r) : Calls Tryd.prog 26 #[.int .u64 x, .int .u64 y] w (RetV w (.bool (r == 0))) := by
  have ho := fun w => rorder_calls x y hx hy w r hr
  generalize (x : Int) = X at *
  generalize (y : Int) = Y at *
  go_enter Tryd.func26, Tryd.ntmps26
  go_wp2_with (first | (go_at_call 24; refine use (ho _) ?_; rintro e w1 ⟨rfl, hs1⟩))
  go_ret
  exact ⟨rfl, Step.of⟩
set_option maxHeartbeats 8000000 in
theorem rsteps_calls (x y : Nat) (hx : x < 18446744073709551616) (hy : y < 18446744073709551616) (w : World) (n : Int) (ok : Bool) (hr : StepsR x y n ok) : Calls Tryd.prog 28 #[.int .u64 x, .int .u64 y] w (RetV w (.tuple #[.int .u64 n, .bool ok])) := by
  have hw := wide_calls
  have hu := Tryd.underlying31
  obtain ⟨X, hX⟩ : ∃ X : Int, X = x := ⟨_, rfl⟩
  obtain ⟨Y, hY⟩ : ∃ Y : Int, Y = y := ⟨_, rfl⟩
  have hp' : ∀ w (v p : Int), (v = X ∧ p = plc x) ∨ (v = Y ∧ p = plc y) → Calls Tryd.prog 51 #[.int .u64 v] w (RetX w (.int .i64 p)) := by
    rintro w v q (⟨rfl, rfl⟩ | ⟨rfl, rfl⟩)
    · rw [hX]; exact rplace_calls x hx w _ rfl
    · rw [hY]; exact rplace_calls y hy w _ rfl
  have HP := Lib.hid hp'; clear hp'
  unfold wideV at hw
  rw [← hX, ← hY]
  have rx := plc_rng hx
  have ry := plc_rng hy
  by_cases nx : isNaN64 x <;> by_cases ny : isNaN64 y
  · have hr' : n = 0 ∧ ok = false := by rcases hr with ⟨_, a, b⟩ | ⟨a, b, _⟩ | ⟨a, b, _⟩ <;> first | exact ⟨a, b⟩ | contradiction
    obtain ⟨rfl, rfl⟩ := hr'
    have hn : ∀ w v q, (v = x ∧ q = true) ∨ (v = y ∧ q = true) → Calls Tryd.prog 49 #[wideV, .int .u64 (v : Nat)] w (RetV w (.bool q)) := by
      rintro w v q (⟨rfl, rfl⟩ | ⟨rfl, rfl⟩)
      · exact wisnone_calls _ (by omega) (by omega) w _ (nan_bt nx)
      · exact wisnone_calls _ (by omega) (by omega) w _ (nan_bt ny)
    unfold wideV at hn
    have hn' : ∀ w (v : Int) q, (v = X ∧ q = true) ∨ (v = Y ∧ q = true) → Calls Tryd.prog 49 #[.agg #[.int .i64 53, .int .i64 (-1074), .int .i64 971, .int .i64 52], .int .u64 v] w (RetV w (.bool q)) := by
      rintro w v q (⟨rfl, rfl⟩ | ⟨rfl, rfl⟩)
      · rw [hX]; exact hn w x _ (.inl ⟨rfl, rfl⟩)
      · rw [hY]; exact hn w y _ (.inr ⟨rfl, rfl⟩)
    have HN := Lib.hid hn'; clear hn hn'
    clear hX hY hx hy nx ny hr rx ry
    go_enter Tryd.func28, Tryd.ntmps28
    go_wp2_with (first | (go_at_call 9; refine use (hw _) ?_; rintro e w1 ⟨rfl, hs1⟩) | (go_at_call 49; refine use (HN.out _ _ _ (by first | exact .inl ⟨rfl, rfl⟩ | exact .inr ⟨rfl, rfl⟩)) ?_; rintro e w2 ⟨rfl, hs2⟩; have d0 := box_keep (h := hs2) 0 (v := .int .i64 53) rfl; have d1 := box_keep (h := hs2) 1 (v := .int .i64 (-1074)) rfl; have d2 := box_keep (h := hs2) 2 (v := .int .i64 971) rfl; have d3 := box_keep (h := hs2) 3 (v := .int .i64 52) rfl) | (go_at_call 49; refine use (HN.out _ _ _ (by first | exact .inl ⟨rfl, rfl⟩ | exact .inr ⟨rfl, rfl⟩)) ?_; rintro e w2 ⟨rfl, hs2⟩; have d0 := cell_keep (h := hs2) d0; have d1 := cell_keep (h := hs2) d1; have d2 := cell_keep (h := hs2) d2; have d3 := cell_keep (h := hs2) d3) | (go_at_call 51; refine use (HP.out _ _ _ (by first | exact .inl ⟨rfl, rfl⟩ | exact .inr ⟨rfl, rfl⟩)) ?_; rintro e w1 ⟨rfl, rfl⟩) | (go_at_call 38; refine use (hg _) ?_; rintro e w3 ⟨rfl, rfl⟩))
    go_ret2
    exact ⟨rfl, Step.of⟩
  · have hr' : n = 0 ∧ ok = false := by rcases hr with ⟨_, a, b⟩ | ⟨a, b, _⟩ | ⟨a, b, _⟩ <;> first | exact ⟨a, b⟩ | contradiction
    obtain ⟨rfl, rfl⟩ := hr'
    have hn : ∀ w v q, (v = x ∧ q = true) ∨ (v = y ∧ q = false) → Calls Tryd.prog 49 #[wideV, .int .u64 (v : Nat)] w (RetV w (.bool q)) := by
      rintro w v q (⟨rfl, rfl⟩ | ⟨rfl, rfl⟩)
      · exact wisnone_calls _ (by omega) (by omega) w _ (nan_bt nx)
      · exact wisnone_calls _ (by omega) (by omega) w _ (nan_bf hy ny)
    unfold wideV at hn
    have hn' : ∀ w (v : Int) q, (v = X ∧ q = true) ∨ (v = Y ∧ q = false) → Calls Tryd.prog 49 #[.agg #[.int .i64 53, .int .i64 (-1074), .int .i64 971, .int .i64 52], .int .u64 v] w (RetV w (.bool q)) := by
      rintro w v q (⟨rfl, rfl⟩ | ⟨rfl, rfl⟩)
      · rw [hX]; exact hn w x _ (.inl ⟨rfl, rfl⟩)
      · rw [hY]; exact hn w y _ (.inr ⟨rfl, rfl⟩)
    have HN := Lib.hid hn'; clear hn hn'
    clear hX hY hx hy nx ny hr rx ry
    go_enter Tryd.func28, Tryd.ntmps28
    go_wp2_with (first | (go_at_call 9; refine use (hw _) ?_; rintro e w1 ⟨rfl, hs1⟩) | (go_at_call 49; refine use (HN.out _ _ _ (by first | exact .inl ⟨rfl, rfl⟩ | exact .inr ⟨rfl, rfl⟩)) ?_; rintro e w2 ⟨rfl, hs2⟩; have d0 := box_keep (h := hs2) 0 (v := .int .i64 53) rfl; have d1 := box_keep (h := hs2) 1 (v := .int .i64 (-1074)) rfl; have d2 := box_keep (h := hs2) 2 (v := .int .i64 971) rfl; have d3 := box_keep (h := hs2) 3 (v := .int .i64 52) rfl) | (go_at_call 49; refine use (HN.out _ _ _ (by first | exact .inl ⟨rfl, rfl⟩ | exact .inr ⟨rfl, rfl⟩)) ?_; rintro e w2 ⟨rfl, hs2⟩; have d0 := cell_keep (h := hs2) d0; have d1 := cell_keep (h := hs2) d1; have d2 := cell_keep (h := hs2) d2; have d3 := cell_keep (h := hs2) d3) | (go_at_call 51; refine use (HP.out _ _ _ (by first | exact .inl ⟨rfl, rfl⟩ | exact .inr ⟨rfl, rfl⟩)) ?_; rintro e w1 ⟨rfl, rfl⟩) | (go_at_call 38; refine use (hg _) ?_; rintro e w3 ⟨rfl, rfl⟩))
    go_ret2
    exact ⟨rfl, Step.of⟩
  · have hr' : n = 0 ∧ ok = false := by rcases hr with ⟨_, a, b⟩ | ⟨a, b, _⟩ | ⟨a, b, _⟩ <;> first | exact ⟨a, b⟩ | contradiction
    obtain ⟨rfl, rfl⟩ := hr'
    have hn : ∀ w v q, (v = x ∧ q = false) ∨ (v = y ∧ q = true) → Calls Tryd.prog 49 #[wideV, .int .u64 (v : Nat)] w (RetV w (.bool q)) := by
      rintro w v q (⟨rfl, rfl⟩ | ⟨rfl, rfl⟩)
      · exact wisnone_calls _ (by omega) (by omega) w _ (nan_bf hx nx)
      · exact wisnone_calls _ (by omega) (by omega) w _ (nan_bt ny)
    unfold wideV at hn
    have hn' : ∀ w (v : Int) q, (v = X ∧ q = false) ∨ (v = Y ∧ q = true) → Calls Tryd.prog 49 #[.agg #[.int .i64 53, .int .i64 (-1074), .int .i64 971, .int .i64 52], .int .u64 v] w (RetV w (.bool q)) := by
      rintro w v q (⟨rfl, rfl⟩ | ⟨rfl, rfl⟩)
      · rw [hX]; exact hn w x _ (.inl ⟨rfl, rfl⟩)
      · rw [hY]; exact hn w y _ (.inr ⟨rfl, rfl⟩)
    have HN := Lib.hid hn'; clear hn hn'
    clear hX hY hx hy nx ny hr rx ry
    go_enter Tryd.func28, Tryd.ntmps28
    go_wp2_with (first | (go_at_call 9; refine use (hw _) ?_; rintro e w1 ⟨rfl, hs1⟩) | (go_at_call 49; refine use (HN.out _ _ _ (by first | exact .inl ⟨rfl, rfl⟩ | exact .inr ⟨rfl, rfl⟩)) ?_; rintro e w2 ⟨rfl, hs2⟩; have d0 := box_keep (h := hs2) 0 (v := .int .i64 53) rfl; have d1 := box_keep (h := hs2) 1 (v := .int .i64 (-1074)) rfl; have d2 := box_keep (h := hs2) 2 (v := .int .i64 971) rfl; have d3 := box_keep (h := hs2) 3 (v := .int .i64 52) rfl) | (go_at_call 49; refine use (HN.out _ _ _ (by first | exact .inl ⟨rfl, rfl⟩ | exact .inr ⟨rfl, rfl⟩)) ?_; rintro e w2 ⟨rfl, hs2⟩; have d0 := cell_keep (h := hs2) d0; have d1 := cell_keep (h := hs2) d1; have d2 := cell_keep (h := hs2) d2; have d3 := cell_keep (h := hs2) d3) | (go_at_call 51; refine use (HP.out _ _ _ (by first | exact .inl ⟨rfl, rfl⟩ | exact .inr ⟨rfl, rfl⟩)) ?_; rintro e w1 ⟨rfl, rfl⟩) | (go_at_call 38; refine use (hg _) ?_; rintro e w3 ⟨rfl, rfl⟩))
    go_ret2
    exact ⟨rfl, Step.of⟩
  · have hr' : ok = true ∧ ((plc x ≤ plc y ∧ n = plc y - plc x) ∨ (plc y < plc x ∧ n = plc x - plc y)) := by
      rcases hr with ⟨a, _⟩ | ⟨_, _, a, b, c⟩ | ⟨_, _, a, b, c⟩
      · rcases a with a | a <;> contradiction
      · exact ⟨c, .inl ⟨a, b⟩⟩
      · exact ⟨c, .inr ⟨a, b⟩⟩
    obtain ⟨rfl, hr'⟩ := hr'
    have hn : ∀ w v q, (v = x ∧ q = false) ∨ (v = y ∧ q = false) → Calls Tryd.prog 49 #[wideV, .int .u64 (v : Nat)] w (RetV w (.bool q)) := by
      rintro w v q (⟨rfl, rfl⟩ | ⟨rfl, rfl⟩)
      · exact wisnone_calls _ (by omega) (by omega) w _ (nan_bf hx nx)
      · exact wisnone_calls _ (by omega) (by omega) w _ (nan_bf hy ny)
    unfold wideV at hn
    have hn' : ∀ w (v : Int) q, (v = X ∧ q = false) ∨ (v = Y ∧ q = false) → Calls Tryd.prog 49 #[.agg #[.int .i64 53, .int .i64 (-1074), .int .i64 971, .int .i64 52], .int .u64 v] w (RetV w (.bool q)) := by
      rintro w v q (⟨rfl, rfl⟩ | ⟨rfl, rfl⟩)
      · rw [hX]; exact hn w x _ (.inl ⟨rfl, rfl⟩)
      · rw [hY]; exact hn w y _ (.inr ⟨rfl, rfl⟩)
    have HN := Lib.hid hn'; clear hn hn'
    clear hX hY hx hy nx ny hr
    rcases hr' with ⟨hp, rfl⟩ | ⟨hp, rfl⟩
    · have hsw := sub_wrap (plc y) (plc x) (by omega) (by omega) (by omega) (by omega)
      generalize plc x = px at *
      generalize plc y = py at *
      go_enter Tryd.func28, Tryd.ntmps28
      go_wp2_with (first | (go_at_call 9; refine use (hw _) ?_; rintro e w1 ⟨rfl, hs1⟩) | (go_at_call 49; refine use (HN.out _ _ _ (by first | exact .inl ⟨rfl, rfl⟩ | exact .inr ⟨rfl, rfl⟩)) ?_; rintro e w2 ⟨rfl, hs2⟩; have d0 := box_keep (h := hs2) 0 (v := .int .i64 53) rfl; have d1 := box_keep (h := hs2) 1 (v := .int .i64 (-1074)) rfl; have d2 := box_keep (h := hs2) 2 (v := .int .i64 971) rfl; have d3 := box_keep (h := hs2) 3 (v := .int .i64 52) rfl) | (go_at_call 49; refine use (HN.out _ _ _ (by first | exact .inl ⟨rfl, rfl⟩ | exact .inr ⟨rfl, rfl⟩)) ?_; rintro e w2 ⟨rfl, hs2⟩; have d0 := cell_keep (h := hs2) d0; have d1 := cell_keep (h := hs2) d1; have d2 := cell_keep (h := hs2) d2; have d3 := cell_keep (h := hs2) d3) | (go_at_call 51; refine use (HP.out _ _ _ (by first | exact .inl ⟨rfl, rfl⟩ | exact .inr ⟨rfl, rfl⟩)) ?_; rintro e w1 ⟨rfl, rfl⟩) | (go_at_call 38; refine use (hg _) ?_; rintro e w3 ⟨rfl, rfl⟩))
      go_ret2
      exact ⟨rfl, Step.of⟩
    · have hsw := sub_wrap (plc x) (plc y) (by omega) (by omega) (by omega) (by omega)
      generalize plc x = px at *
      generalize plc y = py at *
      go_enter Tryd.func28, Tryd.ntmps28
      go_wp2_with (first | (go_at_call 9; refine use (hw _) ?_; rintro e w1 ⟨rfl, hs1⟩) | (go_at_call 49; refine use (HN.out _ _ _ (by first | exact .inl ⟨rfl, rfl⟩ | exact .inr ⟨rfl, rfl⟩)) ?_; rintro e w2 ⟨rfl, hs2⟩; have d0 := box_keep (h := hs2) 0 (v := .int .i64 53) rfl; have d1 := box_keep (h := hs2) 1 (v := .int .i64 (-1074)) rfl; have d2 := box_keep (h := hs2) 2 (v := .int .i64 971) rfl; have d3 := box_keep (h := hs2) 3 (v := .int .i64 52) rfl) | (go_at_call 49; refine use (HN.out _ _ _ (by first | exact .inl ⟨rfl, rfl⟩ | exact .inr ⟨rfl, rfl⟩)) ?_; rintro e w2 ⟨rfl, hs2⟩; have d0 := cell_keep (h := hs2) d0; have d1 := cell_keep (h := hs2) d1; have d2 := cell_keep (h := hs2) d2; have d3 := cell_keep (h := hs2) d3) | (go_at_call 51; refine use (HP.out _ _ _ (by first | exact .inl ⟨rfl, rfl⟩ | exact .inr ⟨rfl, rfl⟩)) ?_; rintro e w1 ⟨rfl, rfl⟩) | (go_at_call 38; refine use (hg _) ?_; rintro e w3 ⟨rfl, rfl⟩))
      go_ret2
      exact ⟨rfl, Step.of⟩
end Tt
