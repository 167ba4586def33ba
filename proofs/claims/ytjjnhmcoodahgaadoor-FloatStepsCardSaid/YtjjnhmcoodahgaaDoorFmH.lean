/- Floats by their bits: Gap of the program. -/
import Derived.Test.YtjjnhmcoodahgaaDoorFmG
namespace Tt
open Go Go.RowKit Go.Proofs
set_option linter.unusedSimpArgs false
set_option linter.unusedVariables false
set_option maxRecDepth 100000

/-- What the package's variable wide holds. -/
def GlobW (w : World) : Prop := w.cell? ⟨0, 0, none⟩ = some (.int .u64 53) ∧ w.cell? ⟨0, 1, none⟩ = some (.int .i64 (-1074)) ∧ w.cell? ⟨0, 2, none⟩ = some (.int .i64 971)
theorem GlobW.ext {a b : World} [e : Ext a b] (h : GlobW a) : GlobW b := ⟨e.cell h.1, e.cell h.2.1, e.cell h.2.2⟩
theorem splitg_calls (b : Nat) (hb : b < 18446744073709551616) (w : World) (G : GlobW w) (cs : Array Value) (hcs : splitW b = cs) : Calls Tryd.prog 7 #[.float .f64 b] w (RetV w (.agg cs)) := by
  have hu := Tryd.underlying25
  have huf := Tryd.underlying68
  have HC := Lib.hid hcs; clear hcs
  have hbits := f64bits b
  obtain ⟨k, n, m, x, rfl⟩ : ∃ (k : Int) (n : Bool) (m x : Int), cs = #[.int .i64 k, .bool n, .int .u64 m, .int .i64 x] := by rw [← HC.out]; exact parts_shape _ _ _ _ _ _
  have g1 : w.cell? ⟨0, 1, none⟩ = some (.int .i64 (-1074)) := G.2.1
  have hlt : 0 < w.heap.size := World.block_lt_of_cell? _ _ g1
  have e0 : bits .and .u64 ((b : Int) / 4503599627370496) 2047 = (b : Int) / 4503599627370496 % 2 ^ 11 := u64_mask 11 (by omega) _ _ (by omega) (by omega) rfl
  have e1 : bits .and .u64 (b : Int) 4503599627370495 = (b : Int) % 2 ^ 52 := u64_mask 52 (by omega) _ _ (by omega) (by omega) rfl
  have e2 := beq_one b 9223372036854775808 (by omega) (by omega) (by omega)
  have HP := fun w => parts_calls 2047 4503599627370496 (-1074) ((b : Int) / 4503599627370496 % 2048) ((b : Int) % 4503599627370496) (decide (9223372036854775808 ≤ (b : Int))) w _ HC.out (by omega) (by omega) (or_top _ 52 (by omega) _ (by rfl) (by omega) (by omega))
  go_enter Tryd.func7, Tryd.ntmps7
  go_wp2_with (first | (go_at_call 36; refine use (HP _) ?_; rintro e w1 ⟨rfl, hs1⟩; have B0 := (Blk.new w [.int .i64 0, .bool false, .int .u64 0, .int .i64 0] 25).ext (b := w1); have c0 := B0.cell 0; have c1 := B0.cell 1; have c2 := B0.cell 2; have c3 := B0.cell 3; have z0 := B0.frozen 0; have z1 := B0.frozen 1; have z2 := B0.frozen 2; have z3 := B0.frozen 3))
  refine bodyPost_ret (results_cell_row rfl _ _ w.heap.size 25 #[.int .i64 k, .bool n, .int .u64 m, .int .i64 x] (0, 0) _ rfl ?hg hu rfl rfl) rfl ?_
  case hg => exact (((B0.set 0 _).set 1 _).set 2 _).set 3 _
  exact ⟨rfl, Step.of⟩
set_option maxHeartbeats 8000000 in
theorem fgap_fin (b : Nat) (hb : b < 18446744073709551616) (w : World) (G : GlobW w) (k m x : Int) (n : Bool) (j : Nat) (hj : j < 2046) (hs : splitW b = #[.int .i64 k, .bool n, .int .u64 m, .int .i64 x]) (hf : b / 4503599627370496 % 2048 ≠ 2047) (hx : (m = 0 ∧ j = 0) ∨ (m ≠ 0 ∧ x = j - 1074)) :
    Calls Tryd.prog 29 #[.float .f64 b] w (RetV w (.tuple #[.float .f64 (gapB j), .bool true])) := by
  have hfi := fun w => ffinite_calls b hb w true (decide_eq_true hf)
  have hsp := fun w G => splitg_calls b hb w G _ hs
  have hld := fldexp_calls j hj
  have hu := Tryd.underlying25
  have huf := Tryd.underlying68
  have HG := Lib.hid G; clear G
  have HSP := Lib.hid hsp; clear hsp
  have HLD := Lib.hid hld; clear hld
  clear hs hf hb
  generalize gapB j = g at *
  rcases hx with ⟨rfl, rfl⟩ | ⟨hm, rfl⟩
  · have e0 : ((0 : Nat) : Int) - 1074 = -1074 := rfl
    rw [e0] at HLD
    clear hj e0
    go_enter Tryd.func29, Tryd.ntmps29
    go_wp2_with (first | (go_at_call 53; refine use (hfi _) ?_; rintro e w1 ⟨rfl, hs1⟩) | (go_at_call 7; refine use (HSP.out _ (GlobW.ext HG.out)) ?_; rintro e w2 ⟨rfl, hs2⟩; obtain ⟨g0, g1, g2⟩ := GlobW.ext (b := w2) HG.out; have hlt := World.block_lt_of_cell? _ _ g1) | (go_at_call 54; refine use (HLD.out _) ?_; rintro e w3 ⟨rfl, rfl⟩))
    go_ret2
    exact ⟨rfl, Step.of⟩
  · have f0 : (m == 0) = false := beq_f hm
    clear hm
    generalize (j : Int) - 1074 = e at *
    clear hj
    go_enter Tryd.func29, Tryd.ntmps29
    go_wp2_with (first | (go_at_call 53; refine use (hfi _) ?_; rintro e w1 ⟨rfl, hs1⟩) | (go_at_call 7; refine use (HSP.out _ (GlobW.ext HG.out)) ?_; rintro e w2 ⟨rfl, hs2⟩) | (go_at_call 54; refine use (HLD.out _) ?_; rintro e w3 ⟨rfl, rfl⟩))
    go_ret2
    exact ⟨rfl, Step.of⟩
/-- The last place's worth. -/
def GapR (b : Nat) (g : Nat) (ok : Bool) : Prop := (b / 4503599627370496 % 2048 = 2047 ∧ g = 0 ∧ ok = false) ∨ (b / 4503599627370496 % 2048 ≠ 2047 ∧ g = gapB (b / 4503599627370496 % 2048 - 1) ∧ ok = true)
theorem gapR_some (b : Nat) : ∃ g ok, GapR b g ok := by
  unfold GapR
  by_cases h : b / 4503599627370496 % 2048 = 2047
  · exact ⟨0, false, .inl ⟨h, rfl, rfl⟩⟩
  · exact ⟨_, true, .inr ⟨h, rfl, rfl⟩⟩
theorem fgap_calls (b : Nat) (hb : b < 18446744073709551616) (w : World) (G : GlobW w) (g : Nat) (ok : Bool) (hr : GapR b g ok) : Calls Tryd.prog 29 #[.float .f64 b] w (RetV w (.tuple #[.float .f64 g, .bool ok])) := by
  rcases hr with ⟨h, rfl, rfl⟩ | ⟨h, rfl, rfl⟩
  · have hfi := fun w => ffinite_calls b hb w false (decide_eq_false (by omega))
    clear hb h G
    go_enter Tryd.func29, Tryd.ntmps29
    go_wp2_with (first | (go_at_call 53; refine use (hfi _) ?_; rintro e w1 ⟨rfl, hs1⟩))
    go_ret2
    exact ⟨rfl, Step.of⟩
  · rcases parts_five 2047 4503599627370496 (-1074) ((b : Int) / 4503599627370496 % 2048) ((b : Int) % 4503599627370496) (decide (9223372036854775808 ≤ (b : Int))) with ⟨a, _, c⟩ | ⟨a, _, c⟩ | ⟨a, a2, a3, c⟩ | ⟨a, a2, a3, c⟩ | ⟨a, a2, c⟩
    · omega
    · omega
    · exact fgap_fin b hb w G _ _ _ _ _ (by omega) c h (.inl ⟨rfl, by omega⟩)
    · exact fgap_fin b hb w G _ _ _ _ _ (by omega) c h (.inr ⟨a3, by omega⟩)
    · exact fgap_fin b hb w G _ _ _ _ _ (by omega) c h (.inr ⟨by omega, by omega⟩)
end Tt
