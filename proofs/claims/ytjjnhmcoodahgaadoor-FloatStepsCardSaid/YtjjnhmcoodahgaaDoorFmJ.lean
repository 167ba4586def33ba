/- Floats by their bits: Gap of the document: the walk. -/
import Derived.Test.YtjjnhmcoodahgaaDoorFmI
namespace Tt
open Go Go.RowKit Go.Proofs
set_option linter.unusedSimpArgs false
set_option linter.unusedVariables false
set_option maxRecDepth 100000

theorem Blk.q3c {w : World} {g : Nat} {T : TypeId} {a b c : Value} (h : Blk w g T [a, b, c]) : w.cell? ⟨g, 0, none⟩ = some a ∧ w.cell? ⟨g, 1, none⟩ = some b ∧ w.cell? ⟨g, 2, none⟩ = some c ∧ w.frozen? ⟨g, 0, none⟩ = false ∧ w.frozen? ⟨g, 1, none⟩ = false ∧ w.frozen? ⟨g, 2, none⟩ = false :=
  ⟨h.cell 0, h.cell 1, h.cell 2, h.frozen 0, h.frozen 1, h.frozen 2⟩
theorem zq6 {W w1 : World} {o o2 : Obj} [h : Step (((W.alloc (.cells #[.bool false, .slice none 0 0, .slice none 0 0] 88)).alloc o).alloc o2).drew w1] : Blk w1 W.heap.size 88 [.bool false, .slice none 0 0, .slice none 0 0] := Blk.ext (a := (W.alloc (.cells #[.bool false, .slice none 0 0, .slice none 0 0] 88))) (Blk.new W _ _)
theorem zq1 {W w1 : World} [h : Step (W.alloc (.cells #[.bool false, .slice none 0 0, .slice none 0 0] 88)) w1] : Blk w1 W.heap.size 88 [.bool false, .slice none 0 0, .slice none 0 0] := Blk.ext (a := W.alloc (.cells #[.bool false, .slice none 0 0, .slice none 0 0] 88)) (Blk.new W _ _)
theorem zq2 {W w1 : World} {o : Obj} [h : Step ((W.alloc (.cells #[.bool false, .slice none 0 0, .slice none 0 0] 88)).alloc o) w1] : Blk w1 W.heap.size 88 [.bool false, .slice none 0 0, .slice none 0 0] := Blk.ext (a := W.alloc (.cells #[.bool false, .slice none 0 0, .slice none 0 0] 88)) (Blk.new W _ _)
theorem zq3 {W w1 : World} [h : Step (W.alloc (.cells #[.bool false, .slice none 0 0, .slice none 0 0] 88)).drew w1] : Blk w1 W.heap.size 88 [.bool false, .slice none 0 0, .slice none 0 0] := Blk.ext (a := W.alloc (.cells #[.bool false, .slice none 0 0, .slice none 0 0] 88)) (Blk.new W _ _)
theorem zq4 {W w1 : World} {o : Obj} [h : Step ((W.alloc (.cells #[.bool false, .slice none 0 0, .slice none 0 0] 88)).alloc o).drew w1] : Blk w1 W.heap.size 88 [.bool false, .slice none 0 0, .slice none 0 0] := Blk.ext (a := W.alloc (.cells #[.bool false, .slice none 0 0, .slice none 0 0] 88)) (Blk.new W _ _)
set_option maxHeartbeats 16000000 in
theorem rgap_fin (b : Nat) (hb : b < 18446744073709551616) (w : World) (k m x : Int) (n : Bool) (j : Nat) (hj : j < 2046) (hs : splitW b = #[.int .i64 k, .bool n, .int .u64 m, .int .i64 x]) (hf : b / 4503599627370496 % 2048 ≠ 2047) (hx : (k ≠ 2 ∧ j = 0) ∨ (k = 2 ∧ x = j - 1074)) :
    Calls Tryd.prog 30 #[.int .u64 b] w (RetV w (.tuple #[.int .u64 (gapB j), .bool true])) := by
  have hw := wide_calls
  have hfi := fun w => wfinite_calls b (by omega) (by omega) w true (bne_t (by omega))
  have hsp := fun w => rsplitW_calls b (by omega) (by omega) w _ hs
  have hp1 := P1074_pos
  have gtab := gap_table hj
  have hbP := P1074_bl
  have hshP := P1074_shl
  generalize P1074 = P2 at *
  have hrd := fun v w h x1 x2 x3 => rrounded_calls v (mkQ false (2 ^ j) P2) 6 w h x1 x2 (gapB j) false x3
  unfold wideV at hw hfi hsp hrd
  have hu := Tryd.underlying31
  have huq := Tryd.underlying88
  have hup := Tryd.underlying25
  have x1 := mkQ_num false (n := 2 ^ j) hp1
  have x2 := mkQ_den false (n := 2 ^ j) hp1
  have x3 := mkQ_neg (neg := false) (Nat.two_pow_pos j) hp1
  have gt : rndW (decide (mkQ false (2 ^ j) P2 < 0)) 6 (mkQ false (2 ^ j) P2).num.natAbs (mkQ false (2 ^ j) P2).den = ((gapB j : Int), false) := by
    rw [x1, x2, x3]; exact gtab
  have q1 : bl (mkQ false (2 ^ j) P2).num.natAbs ≤ 134217728 := by
    rw [x1]
    refine Nat.le_trans (bl_mono (Nat.div_le_self _ _)) ?_
    rw [bl_two]; omega
  have q2 : bl (mkQ false (2 ^ j) P2).den ≤ 134217728 := by
    rw [x2]
    exact Nat.le_trans (bl_mono (Nat.div_le_self _ _)) (by omega)
  have hmk := fun a b w h1 h2 => q_make a b false (2 ^ j) P2 w h1 h2 hp1 (by rw [bl_two]; omega) (by omega) _ rfl
  clear x1 x2 x3 hp1
  have hsh : ∀ w v (i : Int) (o : Nat), IsNat w v 1 → ((i = (j : Int) ∧ o = 2 ^ j) ∨ (i = 1074 ∧ o = P2)) → Calls Tryd.prog 57 #[v, .int .i64 i] w (RetNat w o) := by
    rintro w v i o h (⟨rfl, rfl⟩ | ⟨rfl, rfl⟩)
    · simpa using nat_shl v 1 (j : Int) w h (by decide) (by omega) (by omega)
    · have q := nat_shl v 1 1074 w h (by decide) (by omega) (by omega)
      rw [hshP] at q
      exact q
  generalize mkQ false (2 ^ j) P2 = q at *
  have hrd := fun v w h => hrd v w h q1 q2 gt
  clear gt q1 q2 hs hf
  generalize gapB j = g at *
  generalize (2 : Nat) ^ j = P1 at *
  clear hbP gtab hshP
  have hfd0 : ∀ w : World, (Instr.field 25 (.agg #[.int .i64 k, .bool n, .int .u64 m, .int .i64 x]) 0).run Tryd.prog w = .ok (.int .i64 k) w := fun _ => by kernel_rfl
  have hfd3 : ∀ w : World, (Instr.field 25 (.agg #[.int .i64 k, .bool n, .int .u64 m, .int .i64 x]) 3).run Tryd.prog w = .ok (.int .i64 x) w := fun _ => by kernel_rfl
  have HSP := Lib.hid hsp; clear hsp
  have HRD := Lib.hid hrd; clear hrd
  have HMK := Lib.hid hmk; clear hmk
  have HSH := Lib.hid hsh; clear hsh
  generalize (b : Int) = B at *
  generalize hJ : (j : Int) = J at *
  have hJr : 0 ≤ J ∧ J < 2046 := by omega
  generalize (g : Int) = gi at *
  have wr2 : IntKind.i64.wrap 1074 = 1074 := by decide
  have wr3 : IntKind.i64.wrap (- -1074) = 1074 := by decide
  rcases hx with ⟨hk, rfl⟩ | ⟨rfl, rfl⟩
  · have f0 : (k == 2) = false := beq_f hk
    have hJ0 : J = 0 := by omega
    have wr1 : IntKind.i64.wrap 0 = J := by rw [hJ0]; decide
    clear hJ hJ0 hj hb hk
    go_enter Tryd.func30, Tryd.ntmps30
    go_upto_region 7 with (first | (go_at_call 9; refine use (hw _) ?_; rintro e w1 ⟨rfl, hs1⟩) | (go_at_call 55; refine use (hfi _) ?_; rintro e w2 ⟨rfl, hs2⟩; have d0 := box_keep (h := hs2) 0 (v := .int .i64 53) rfl; have d1 := box_keep (h := hs2) 1 (v := .int .i64 (-1074)) rfl; have d2 := box_keep (h := hs2) 2 (v := .int .i64 971) rfl; have d3 := box_keep (h := hs2) 3 (v := .int .i64 52) rfl) | (go_at_call 10; refine use (HSP.out _) ?_; rintro e w3 ⟨rfl, hs3⟩; have d0 := cell_keep (h := hs3) d0; have d1 := cell_keep (h := hs3) d1; have d2 := cell_keep (h := hs3) d2; have d3 := cell_keep (h := hs3) d3))
    have hlt := World.block_lt_of_cell? _ _ d0
    have g0 := d0
    have g1 := d1
    have g2 := d2
    have g3 := d3
    go_region_held3 (fun w' => w'.cell? ⟨w1.heap.size, 0, none⟩ = some (.int .i64 53) ∧ w'.cell? ⟨w1.heap.size, 1, none⟩ = some (.int .i64 (-1074)) ∧ w'.cell? ⟨w1.heap.size, 2, none⟩ = some (.int .i64 971) ∧ w'.cell? ⟨w1.heap.size, 3, none⟩ = some (.int .i64 52)) (first | exact ⟨Ext.cell inferInstance g0, Ext.cell inferInstance g1, Ext.cell inferInstance g2, Ext.cell inferInstance g3⟩ | go_keep) (first | (go_at_call 57; (try simp only [wr1, wr2, wr3]); refine use (HSH.out _ _ _ _ (by first | exact IsNat.one_of (by simp [*, go_sem]) (by omega) (by omega) | exact IsNat.one_of (cell_keep (by simp [*, go_sem])) (by omega) (by omega) | exact IsNat.one_of (cell_keep (h := hs4) (by simp [go_sem])) (by omega) (by omega) | exact IsNat.one_of (Ext.cell (a := w4) inferInstance (cell_keep (h := hs4) (by simp [go_sem]))) (by omega) (by omega)) (by first | exact .inl ⟨rfl, rfl⟩ | exact .inr ⟨rfl, rfl⟩)) ?_; rintro e w4 ⟨v4, rfl, N4, hs4⟩; have d0 := Ext.cell (b := w4) inferInstance d0; have d1 := Ext.cell (b := w4) inferInstance d1; have d2 := Ext.cell (b := w4) inferInstance d2; have d3 := Ext.cell (b := w4) inferInstance d3; have hlt := World.block_lt_of_cell? _ _ d0; (first | (have B0 := Blk.ext (b := w4) B0) | (have B0 := zq1 (h := hs4); (try simp at B0)) | (have B0 := zq2 (h := hs4); (try simp at B0)) | (have B0 := zq3 (h := hs4); (try simp at B0)) | (have B0 := zq4 (h := hs4); (try simp at B0)) | (have B0 := zq6 (h := hs4); (try simp at B0)) | skip)) | (go_at_call 56; refine use (HMK.out _ _ _ (IsNat.up ‹IsNat _ _ P1›) (IsNat.up ‹IsNat _ _ P2›)) ?_; rintro e w6 ⟨v6, rfl, N6, hs6⟩; have d0 := Ext.cell (b := w6) inferInstance d0; have d1 := Ext.cell (b := w6) inferInstance d1; have d2 := Ext.cell (b := w6) inferInstance d2; have d3 := Ext.cell (b := w6) inferInstance d3; have hlt := World.block_lt_of_cell? _ _ d0; have NQ := N6; obtain ⟨a6, b6, rfl, Na, Nb⟩ := N6; obtain ⟨A6, k6, c6, rfl⟩ := Na.slice; obtain ⟨A7, k7, c7, rfl⟩ := Nb.slice; generalize decide (q < 0) = sq at *; (first | (have B0 := Blk.ext (b := w6) B0) | (have B0 := zq1 (h := hs6); (try simp at B0)) | (have B0 := zq2 (h := hs6); (try simp at B0)) | (have B0 := zq3 (h := hs6); (try simp at B0)) | (have B0 := zq4 (h := hs6); (try simp at B0)) | (have B0 := zq6 (h := hs6); (try simp at B0)) | skip); (first | (obtain ⟨c0, c1, c2, z0, z1, z2⟩ := B0.q3c) | skip)))
    all_goals
      go_wp2_with (first | (go_at_call 58; refine use (HRD.out _ _ (by first | exact NQ.up | exact NQ.q3 B0 _ _ _)) ?_; rintro e w8 ⟨rfl, hs8⟩))
      go_ret2
      exact ⟨rfl, Step.of⟩
  · have wr1 : IntKind.i64.wrap (J - 1074 - -1074) = J := by simp [IntKind.wrap, IntKind.bits, IntKind.signed]; omega
    clear hJ hj hb
    have wr1b : IntKind.i64.wrap (J - 1074 + 1074) = J := by simp [IntKind.wrap, IntKind.bits, IntKind.signed]; omega
    have wr1c : IntKind.i64.wrap J = J := by simp [IntKind.wrap, IntKind.bits, IntKind.signed]; omega
    go_enter Tryd.func30, Tryd.ntmps30
    go_upto_region 7 with (first | (go_at_call 9; refine use (hw _) ?_; rintro e w1 ⟨rfl, hs1⟩) | (go_at_call 55; refine use (hfi _) ?_; rintro e w2 ⟨rfl, hs2⟩; have d0 := box_keep (h := hs2) 0 (v := .int .i64 53) rfl; have d1 := box_keep (h := hs2) 1 (v := .int .i64 (-1074)) rfl; have d2 := box_keep (h := hs2) 2 (v := .int .i64 971) rfl; have d3 := box_keep (h := hs2) 3 (v := .int .i64 52) rfl) | (go_at_call 10; refine use (HSP.out _) ?_; rintro e w3 ⟨rfl, hs3⟩; have d0 := cell_keep (h := hs3) d0; have d1 := cell_keep (h := hs3) d1; have d2 := cell_keep (h := hs3) d2; have d3 := cell_keep (h := hs3) d3))
    have hlt := World.block_lt_of_cell? _ _ d0
    have g0 := d0
    have g1 := d1
    have g2 := d2
    have g3 := d3
    go_region_held3 (fun w' => w'.cell? ⟨w1.heap.size, 0, none⟩ = some (.int .i64 53) ∧ w'.cell? ⟨w1.heap.size, 1, none⟩ = some (.int .i64 (-1074)) ∧ w'.cell? ⟨w1.heap.size, 2, none⟩ = some (.int .i64 971) ∧ w'.cell? ⟨w1.heap.size, 3, none⟩ = some (.int .i64 52)) (first | exact ⟨Ext.cell inferInstance g0, Ext.cell inferInstance g1, Ext.cell inferInstance g2, Ext.cell inferInstance g3⟩ | go_keep) (first | (go_at_call 57; (try simp only [wr1, wr1b, wr1c, wr2, wr3]); refine use (HSH.out _ _ _ _ (by first | exact IsNat.one_of (by simp [*, go_sem]) (by omega) (by omega) | exact IsNat.one_of (cell_keep (by simp [*, go_sem])) (by omega) (by omega) | exact IsNat.one_of (cell_keep (h := hs4) (by simp [go_sem])) (by omega) (by omega) | exact IsNat.one_of (Ext.cell (a := w4) inferInstance (cell_keep (h := hs4) (by simp [go_sem]))) (by omega) (by omega)) (by first | exact .inl ⟨rfl, rfl⟩ | exact .inr ⟨rfl, rfl⟩)) ?_; rintro e w4 ⟨v4, rfl, N4, hs4⟩; have d0 := Ext.cell (b := w4) inferInstance d0; have d1 := Ext.cell (b := w4) inferInstance d1; have d2 := Ext.cell (b := w4) inferInstance d2; have d3 := Ext.cell (b := w4) inferInstance d3; have hlt := World.block_lt_of_cell? _ _ d0; (first | (have B0 := Blk.ext (b := w4) B0) | (have B0 := zq1 (h := hs4); (try simp at B0)) | (have B0 := zq2 (h := hs4); (try simp at B0)) | (have B0 := zq3 (h := hs4); (try simp at B0)) | (have B0 := zq4 (h := hs4); (try simp at B0)) | (have B0 := zq6 (h := hs4); (try simp at B0)) | skip)) | (go_at_call 56; refine use (HMK.out _ _ _ (IsNat.up ‹IsNat _ _ P1›) (IsNat.up ‹IsNat _ _ P2›)) ?_; rintro e w6 ⟨v6, rfl, N6, hs6⟩; have d0 := Ext.cell (b := w6) inferInstance d0; have d1 := Ext.cell (b := w6) inferInstance d1; have d2 := Ext.cell (b := w6) inferInstance d2; have d3 := Ext.cell (b := w6) inferInstance d3; have hlt := World.block_lt_of_cell? _ _ d0; have NQ := N6; obtain ⟨a6, b6, rfl, Na, Nb⟩ := N6; obtain ⟨A6, k6, c6, rfl⟩ := Na.slice; obtain ⟨A7, k7, c7, rfl⟩ := Nb.slice; generalize decide (q < 0) = sq at *; (first | (have B0 := Blk.ext (b := w6) B0) | (have B0 := zq1 (h := hs6); (try simp at B0)) | (have B0 := zq2 (h := hs6); (try simp at B0)) | (have B0 := zq3 (h := hs6); (try simp at B0)) | (have B0 := zq4 (h := hs6); (try simp at B0)) | (have B0 := zq6 (h := hs6); (try simp at B0)) | skip); (first | (obtain ⟨c0, c1, c2, z0, z1, z2⟩ := B0.q3c) | skip)))
    all_goals
      go_wp2_with (first | (go_at_call 58; refine use (HRD.out _ _ (by first | exact NQ.up | exact NQ.q3 B0 _ _ _)) ?_; rintro e w8 ⟨rfl, hs8⟩))
      go_ret2
      exact ⟨rfl, Step.of⟩
end Tt
