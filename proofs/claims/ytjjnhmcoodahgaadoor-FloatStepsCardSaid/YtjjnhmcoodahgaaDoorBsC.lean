/- tontinebase's numbers of any size: NatOf, NatOf64, Shl, Shr, Bits. -/
import Derived.Test.YtjjnhmcoodahgaaDoorBsB
import Derived.KernelRfl
import Derived.RowKit3
import Derived.Deep.LoopGhost
import Derived.Deep.QuietTactic
import Derived.BigQuiet
import Derived.WideLaws
import Derived.Outline
import Derived.Lib.Hide
import Derived.WalkLawsBesides
import Derived.WalkSpells
namespace Tt
open Go Go.RowKit Go.Proofs
set_option linter.unusedSimpArgs false
set_option linter.unusedVariables false
set_option maxRecDepth 100000
attribute [local go_sem] max2_int min2_int max_two min_two

theorem IsNat.own {w : World} {base : Nat} {e : TypeId} {v : Value} {xs : List Int} {n : Nat} (h : w.ownsRow base e 1 v xs.length (nums .i64 xs)) (r : Rng 1073741824 xs) (t : Top xs) (hv : val 1073741824 xs = n) : IsNat w v n := by
  obtain ⟨A, c, rfl, h1, h2⟩ := own_slice h
  exact ⟨A, c, xs, rfl, h1, h2, (own_ints h).2, r, t, hv⟩

theorem one_nums {k : IntKind} {x : Int} : ∀ u ∈ nums k [x], u.oneCell' = true := by simp [nums, Value.oneCell']

theorem nat_of (x : Int) (n : Nat) (w : World) (hx : x = n) (h1 : x < 9223372036854775808) : Calls Tryd.prog 90 #[.int .i64 x] w (RetNat w n) := by
  have HX := Lib.hid hx
  have h0 : 0 ≤ x := by omega
  clear hx
  go_enter Tryd.func90, Tryd.ntmps90
  go_wp2
  go_loopw [0, 3] (fun v0 v3 wr => ∃ (y : Int) (xs : List Int), v0 = .int .i64 y ∧ OfInv x y xs ∧ wr.ownsRow w.heap.size 3 1 v3 xs.length (nums .i64 xs) ∧ Ext w wr) (fun v _ _ => (intOf v).toNat)
  case atStart => exact ⟨x, [], rfl, OfInv.zero h0 (by omega), own_nil _ _ _ _, inferInstance⟩
  case round =>
    obtain ⟨y, xs, rfl, HI, HO, HE⟩ := hrel
    have hy := HI.1.1
    have hyx := HI.1.2
    have hl := HI.len
    by_cases hp : 0 < y
    · go_wp2_with (at_builtin; refine app_one (w0 := w) w.heap.size (.tmp 6) (.tmp 9) _ _ (.int .i64 0) 1 8 rfl rfl Tryd.underlying85 info_int rfl (by omega) (by omega) _ xs.length (nums .i64 xs) (nums .i64 [y % 1073741824]) rfl rfl rfl one_nums HO ?_ HE.out.size (Nat.le_refl _) (by omega) ?_; (exact HE); intro v1 w1 HO1 HE1 _ _; clear HO HE)
      refine ⟨⟨_, _, rfl, HI.step hp, ?_, HE1⟩, by simp [intOf]; omega⟩
      simpa [nums] using HO1
    · obtain rfl : y = 0 := by omega
      have HF := Lib.hid HI.fin
      go_wp2
      go_ret
      exact ⟨_, rfl, IsNat.own HO HF.out.1 HF.out.2.1 (HF.out.2.2.trans HX.out), Step.of⟩

theorem nat_of64 (x : Int) (n : Nat) (w : World) (hx : x = n) (h1 : x < 18446744073709551616) : Calls Tryd.prog 84 #[.int .u64 x] w (RetNat w n) := by
  have HX := Lib.hid hx
  have h0 : 0 ≤ x := by omega
  clear hx
  go_enter Tryd.func84, Tryd.ntmps84
  go_wp2
  go_loopw [0, 3] (fun v0 v3 wr => ∃ (y : Int) (xs : List Int), v0 = .int .u64 y ∧ OfInv x y xs ∧ wr.ownsRow w.heap.size 3 1 v3 xs.length (nums .i64 xs) ∧ Ext w wr) (fun v _ _ => (intOf v).toNat)
  case atStart => exact ⟨x, [], rfl, OfInv.zero h0 (by omega), own_nil _ _ _ _, inferInstance⟩
  case round =>
    obtain ⟨y, xs, rfl, HI, HO, HE⟩ := hrel
    have hy := HI.1.1
    have hyx := HI.1.2
    have hl := HI.len
    by_cases hp : 0 < y
    · go_wp2_with (at_builtin; refine app_one (w0 := w) w.heap.size (.tmp 6) (.tmp 10) _ _ (.int .i64 0) 1 8 rfl rfl Tryd.underlying85 info_int rfl (by omega) (by omega) _ xs.length (nums .i64 xs) (nums .i64 [y % 1073741824]) rfl rfl rfl one_nums HO ?_ HE.out.size (Nat.le_refl _) (by omega) ?_; (exact HE); intro v1 w1 HO1 HE1 _ _; clear HO HE)
      refine ⟨⟨_, _, rfl, HI.step hp, ?_, HE1⟩, by simp [intOf]; omega⟩
      simpa [nums] using HO1
    · obtain rfl : y = 0 := by omega
      have HF := Lib.hid HI.fin
      go_wp2
      go_ret
      exact ⟨_, rfl, IsNat.own HO HF.out.1 HF.out.2.1 (HF.out.2.2.trans HX.out), Step.of⟩

end Tt
