/- Floats by their bits: Split, by the program and by the document. -/
import Derived.Test.YtjjnhmcoodahgaaDoorFlB
namespace Tt
open Go Go.RowKit Go.Proofs
set_option linter.unusedSimpArgs false
set_option linter.unusedVariables false
set_option maxRecDepth 100000

theorem parts_shape (all one L ex fr : Int) (neg : Bool) : ∃ (k : Int) (n : Bool) (m x : Int), partsC all one L ex fr neg = #[.int .i64 k, .bool n, .int .u64 m, .int .i64 x] := by
  rcases parts_five all one L ex fr neg with ⟨_, _, c⟩ | ⟨_, _, c⟩ | ⟨_, _, _, c⟩ | ⟨_, _, _, c⟩ | ⟨_, _, c⟩ <;> exact ⟨_, _, _, _, c⟩
/-- What the package's variables hold. -/
def Globs (w : World) : Prop :=
  (w.cell? ⟨0, 0, none⟩ = some (.int .u64 53) ∧ w.cell? ⟨0, 1, none⟩ = some (.int .i64 (-1074)) ∧ w.cell? ⟨0, 2, none⟩ = some (.int .i64 971)) ∧
  (w.cell? ⟨2, 0, none⟩ = some (.int .u64 24) ∧ w.cell? ⟨2, 1, none⟩ = some (.int .i64 (-149)) ∧ w.cell? ⟨2, 2, none⟩ = some (.int .i64 104))
theorem Globs.ext {a b : World} [e : Ext a b] (h : Globs a) : Globs b :=
  ⟨⟨e.cell h.1.1, e.cell h.1.2.1, e.cell h.1.2.2⟩, ⟨e.cell h.2.1, e.cell h.2.2.1, e.cell h.2.2.2⟩⟩
/-- The parts of 64 bits. -/
def splitW (b : Int) : Array Value := partsC 2047 4503599627370496 (-1074) (b / 4503599627370496 % 2048) (b % 4503599627370496) (decide (9223372036854775808 ≤ b))
def splitS (b : Int) : Array Value := partsC 255 8388608 (-149) (b / 8388608 % 256) (b % 8388608) (decide (2147483648 ≤ b))
theorem beq_one (b p : Int) (h0 : 0 ≤ b) (h1 : b < 2 * p) (hp : 0 < p) : (b / p == 1) = decide (p ≤ b) := by
  by_cases h : p ≤ b
  · have : b / p = 1 := by
      have h2 : b / p < 2 := Int.ediv_lt_of_lt_mul hp h1
      have h3 : 1 ≤ b / p := Int.le_ediv_of_mul_le hp (by omega)
      omega
    simp [h, this]
  · have : b / p = 0 := Int.ediv_eq_zero_of_lt h0 (by omega)
    simp [h, this]
theorem or_top (fr : Int) (i : Nat) (hi : i < 63) (p : Int) (hp : p = 2 ^ i) (h0 : 0 ≤ fr) (h1 : fr < p) : bits .or .u64 fr p = fr + p := by
  subst hp
  have hle : (2 : Int) ^ i < 2 ^ 63 := Int.pow_lt_pow_of_lt (by omega) hi
  obtain ⟨a, rfl⟩ := Int.eq_ofNat_of_zero_le h0
  have ha : a < 2 ^ i := by exact_mod_cast h1
  have hle' : 2 ^ i < 2 ^ 63 := by exact_mod_cast hle
  have e : ((2 : Int) ^ i) = ((2 ^ i : Nat) : Int) := by push_cast; rfl
  rw [e, (bits_nat .u64 64 (by decide) u64_in a _ (by omega) (by omega)).2, Nat.or_comm]
  have := Nat.two_pow_add_eq_or_of_lt ha 1
  simp only [Nat.mul_one] at this
  rw [← this]
  push_cast
  omega

theorem split_calls (b : Nat) (hb : b < 18446744073709551616) (w : World) (G : Globs w) (cs : Array Value) (hcs : splitW b = cs) : Calls Tryd.prog 7 #[.float .f64 b] w (RetV w (.agg cs)) := by
  have hu := Tryd.underlying25
  have huf := Tryd.underlying68
  have HC := Lib.hid hcs; clear hcs
  have hbits := f64bits b
  obtain ⟨k, n, m, x, rfl⟩ : ∃ (k : Int) (n : Bool) (m x : Int), cs = #[.int .i64 k, .bool n, .int .u64 m, .int .i64 x] := by rw [← HC.out]; exact parts_shape _ _ _ _ _ _
  have g1 : w.cell? ⟨0, 1, none⟩ = some (.int .i64 (-1074)) := G.1.2.1
  have hlt : 0 < w.heap.size := World.block_lt_of_cell? _ _ g1
  have e0 : bits .and .u64 ((b : Int) / 4503599627370496) 2047 = (b : Int) / 4503599627370496 % 2 ^ 11 := u64_mask 11 (by omega) _ _ (by omega) (by omega) rfl
  have e1 : bits .and .u64 (b : Int) 4503599627370495 = (b : Int) % 2 ^ 52 := u64_mask 52 (by omega) _ _ (by omega) (by omega) rfl
  have e2 := beq_one b 9223372036854775808 (by omega) (by omega) (by omega)
  have HP := fun w => parts_calls 2047 4503599627370496 (-1074) ((b : Int) / 4503599627370496 % 2048) ((b : Int) % 4503599627370496) (decide (9223372036854775808 ≤ (b : Int))) w _ HC.out (by omega) (by omega) (or_top _ 52 (by omega) _ (by rfl) (by omega) (by omega))
  go_enter Tryd.func7, Tryd.ntmps7
  go_wp2_with (first | (go_at_call 36; refine use (HP _) ?_; rintro e w1 ⟨rfl, hs1⟩; have B0 := (Blk.new w [.int .i64 0, .bool false, .int .u64 0, .int .i64 0] 25).ext (b := w1); have c0 := B0.cell 0; have c1 := B0.cell 1; have c2 := B0.cell 2; have c3 := B0.cell 3; have z0 := B0.frozen 0; have z1 := B0.frozen 1; have z2 := B0.frozen 2; have z3 := B0.frozen 3))
  refine bodyPost_ret (results_cell_row rfl _ _ w.heap.size 25 #[.int .i64 k, .bool n, .int .u64 m, .int .i64 x] (0, 0) _ rfl ?hg hu rfl rfl) rfl ?_
  case hg => exact (((B0.set 0 _).set 1 _).set 2 _).set 3 _
  exact ⟨rfl, Step.of⟩
theorem split32_calls (b : Nat) (hb : b < 4294967296) (w : World) (G : Globs w) (cs : Array Value) (hcs : splitS b = cs) : Calls Tryd.prog 11 #[.float .f32 b] w (RetV w (.agg cs)) := by
  have hu := Tryd.underlying25
  have huf := Tryd.underlying68
  have HC := Lib.hid hcs; clear hcs
  have hbits := f32bits b
  obtain ⟨k, n, m, x, rfl⟩ : ∃ (k : Int) (n : Bool) (m x : Int), cs = #[.int .i64 k, .bool n, .int .u64 m, .int .i64 x] := by rw [← HC.out]; exact parts_shape _ _ _ _ _ _
  have g1 : w.cell? ⟨2, 1, none⟩ = some (.int .i64 (-149)) := G.2.2.1
  have hlt : 2 < w.heap.size := World.block_lt_of_cell? _ _ g1
  have e0 : bits .and .u64 ((b : Int) / 8388608) 255 = (b : Int) / 8388608 % 2 ^ 8 := u64_mask 8 (by omega) _ _ (by omega) (by omega) rfl
  have e1 : bits .and .u64 (b : Int) 8388607 = (b : Int) % 2 ^ 23 := u64_mask 23 (by omega) _ _ (by omega) (by omega) rfl
  have e2 := beq_one b 2147483648 (by omega) (by omega) (by omega)
  have HP := fun w => parts_calls 255 8388608 (-149) ((b : Int) / 8388608 % 256) ((b : Int) % 8388608) (decide (2147483648 ≤ (b : Int))) w _ HC.out (by omega) (by omega) (or_top _ 23 (by omega) _ (by rfl) (by omega) (by omega))
  go_enter Tryd.func11, Tryd.ntmps11
  go_wp2_with (first | (go_at_call 36; refine use (HP _) ?_; rintro e w1 ⟨rfl, hs1⟩; have B0 := (Blk.new w [.int .i64 0, .bool false, .int .u64 0, .int .i64 0] 25).ext (b := w1); have c0 := B0.cell 0; have c1 := B0.cell 1; have c2 := B0.cell 2; have c3 := B0.cell 3; have z0 := B0.frozen 0; have z1 := B0.frozen 1; have z2 := B0.frozen 2; have z3 := B0.frozen 3))
  refine bodyPost_ret (results_cell_row rfl _ _ w.heap.size 25 #[.int .i64 k, .bool n, .int .u64 m, .int .i64 x] (0, 0) _ rfl ?hg hu rfl rfl) rfl ?_
  case hg => exact (((B0.set 0 _).set 1 _).set 2 _).set 3 _
  exact ⟨rfl, Step.of⟩
end Tt
