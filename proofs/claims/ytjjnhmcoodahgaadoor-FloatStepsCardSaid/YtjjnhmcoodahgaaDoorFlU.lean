/- Floats by their bits: Up, Down, Order, Same, Steps of the document. -/
import Derived.Test.YtjjnhmcoodahgaaDoorFlT
namespace Tt
open Go Go.RowKit Go.Proofs
set_option linter.unusedSimpArgs false
set_option linter.unusedVariables false
set_option maxRecDepth 100000

theorem winf_false (w : World) : Calls Tryd.prog 47 #[wideV, .bool false] w (RetV w (.int .u64 9218868437227405312)) := by
  simpa using winf_calls false w
set_option maxHeartbeats 8000000 in
theorem rup_calls (b : Nat) (hb : b < 18446744073709551616) (w : World) (r : Nat) (hr : UpR b r) : Calls Tryd.prog 20 #[.int .u64 b] w (RetV w (.int .u64 r)) := by
  have hw := wide_calls
  have hn := fun w v h => wisnone_calls b (by omega) (by omega) w v h
  have hi := winf_false
  have hg := fun w v h => wneg_calls b (by omega) (by omega) w v h
  unfold wideV at hw hn hi hg
  have hu := Tryd.underlying31
  rcases hr with ⟨nx, rfl⟩ | ⟨rfl, rfl⟩ | ⟨nx, hz, rfl⟩ | ⟨nx, hp, hr⟩ | ⟨nx, hp, hq, hr⟩
  · have hn' := fun w => hn w true (nan_bt nx)
    clear hn hg nx hb
    go_enter Tryd.func20, Tryd.ntmps20
    go_wp2_with (first | (go_at_call 9; refine use (hw _) ?_; rintro e w1 ⟨rfl, hs1⟩) | (go_at_call 49; refine use (hn' _) ?_; rintro e w2 ⟨rfl, hs2⟩; have d0 := box_keep (h := hs2) 0 (v := .int .i64 53) rfl; have d1 := box_keep (h := hs2) 1 (v := .int .i64 (-1074)) rfl; have d2 := box_keep (h := hs2) 2 (v := .int .i64 971) rfl; have d3 := box_keep (h := hs2) 3 (v := .int .i64 52) rfl) | (go_at_call 47; refine use (hi _) ?_; rintro e w3 ⟨rfl, hs3⟩; have d0 := cell_keep (h := hs3) d0; have d1 := cell_keep (h := hs3) d1; have d2 := cell_keep (h := hs3) d2; have d3 := cell_keep (h := hs3) d3) | (go_at_call 38; refine use (hg' _) ?_; rintro e w3 ⟨rfl, rfl⟩))
    go_ret
    exact ⟨rfl, Step.of⟩
  · have hn' := fun w => hn w false (nan_bf (by omega) not_nan_inf)
    clear hn hg hb
    go_enter Tryd.func20, Tryd.ntmps20
    go_wp2_with (first | (go_at_call 9; refine use (hw _) ?_; rintro e w1 ⟨rfl, hs1⟩) | (go_at_call 49; refine use (hn' _) ?_; rintro e w2 ⟨rfl, hs2⟩; have d0 := box_keep (h := hs2) 0 (v := .int .i64 53) rfl; have d1 := box_keep (h := hs2) 1 (v := .int .i64 (-1074)) rfl; have d2 := box_keep (h := hs2) 2 (v := .int .i64 971) rfl; have d3 := box_keep (h := hs2) 3 (v := .int .i64 52) rfl) | (go_at_call 47; refine use (hi _) ?_; rintro e w3 ⟨rfl, hs3⟩; have d0 := cell_keep (h := hs3) d0; have d1 := cell_keep (h := hs3) d1; have d2 := cell_keep (h := hs3) d2; have d3 := cell_keep (h := hs3) d3) | (go_at_call 38; refine use (hg' _) ?_; rintro e w3 ⟨rfl, rfl⟩))
    go_ret
    exact ⟨rfl, Step.of⟩
  · have hn' := fun w => hn w false (nan_bf hb nx)
    have f1 : ((b : Int) == 9218868437227405312) = false := beq_f (by omega)
    rcases hz with rfl | rfl
    all_goals
      clear hn nx hb
      go_enter Tryd.func20, Tryd.ntmps20
      go_wp2_with (first | (go_at_call 9; refine use (hw _) ?_; rintro e w1 ⟨rfl, hs1⟩) | (go_at_call 49; refine use (hn' _) ?_; rintro e w2 ⟨rfl, hs2⟩; have d0 := box_keep (h := hs2) 0 (v := .int .i64 53) rfl; have d1 := box_keep (h := hs2) 1 (v := .int .i64 (-1074)) rfl; have d2 := box_keep (h := hs2) 2 (v := .int .i64 971) rfl; have d3 := box_keep (h := hs2) 3 (v := .int .i64 52) rfl) | (go_at_call 47; refine use (hi _) ?_; rintro e w3 ⟨rfl, hs3⟩; have d0 := cell_keep (h := hs3) d0; have d1 := cell_keep (h := hs3) d1; have d2 := cell_keep (h := hs3) d2; have d3 := cell_keep (h := hs3) d3) | (go_at_call 38; refine use (hg' _) ?_; rintro e w3 ⟨rfl, rfl⟩))
      go_ret
      exact ⟨rfl, Step.of⟩
  · have hn' := fun w => hn w false (nan_bf hb nx)
    have hg' := fun w => hg w true (decide_eq_true (by omega))
    have f1 : ((b : Int) == 9218868437227405312) = false := beq_f (by omega)
    have f2 : ((b : Int) == 9223372036854775808) = false := beq_f (by omega)
    have f3 : ((b : Int) == 0) = false := beq_f (by omega)
    have e1 : IntKind.u64.wrap ((b : Int) - 1) = r := by simp [IntKind.wrap, IntKind.bits, IntKind.signed]; omega
    clear hn hg nx hp hr
    generalize (b : Int) = B at *
    go_enter Tryd.func20, Tryd.ntmps20
    go_wp2_with (first | (go_at_call 9; refine use (hw _) ?_; rintro e w1 ⟨rfl, hs1⟩) | (go_at_call 49; refine use (hn' _) ?_; rintro e w2 ⟨rfl, hs2⟩; have d0 := box_keep (h := hs2) 0 (v := .int .i64 53) rfl; have d1 := box_keep (h := hs2) 1 (v := .int .i64 (-1074)) rfl; have d2 := box_keep (h := hs2) 2 (v := .int .i64 971) rfl; have d3 := box_keep (h := hs2) 3 (v := .int .i64 52) rfl) | (go_at_call 47; refine use (hi _) ?_; rintro e w3 ⟨rfl, hs3⟩; have d0 := cell_keep (h := hs3) d0; have d1 := cell_keep (h := hs3) d1; have d2 := cell_keep (h := hs3) d2; have d3 := cell_keep (h := hs3) d3) | (go_at_call 38; refine use (hg' _) ?_; rintro e w3 ⟨rfl, rfl⟩))
    go_ret
    exact ⟨rfl, Step.of⟩
  · have hn' := fun w => hn w false (nan_bf hb nx)
    have hg' := fun w => hg w false (decide_eq_false (by omega))
    have f1 : ((b : Int) == 9218868437227405312) = false := beq_f (by omega)
    have f2 : ((b : Int) == 9223372036854775808) = false := beq_f (by omega)
    have f3 : ((b : Int) == 0) = false := beq_f (by omega)
    have e1 : IntKind.u64.wrap ((b : Int) + 1) = r := by simp [IntKind.wrap, IntKind.bits, IntKind.signed]; omega
    clear hn hg nx hp hq hr
    generalize (b : Int) = B at *
    go_enter Tryd.func20, Tryd.ntmps20
    go_wp2_with (first | (go_at_call 9; refine use (hw _) ?_; rintro e w1 ⟨rfl, hs1⟩) | (go_at_call 49; refine use (hn' _) ?_; rintro e w2 ⟨rfl, hs2⟩; have d0 := box_keep (h := hs2) 0 (v := .int .i64 53) rfl; have d1 := box_keep (h := hs2) 1 (v := .int .i64 (-1074)) rfl; have d2 := box_keep (h := hs2) 2 (v := .int .i64 971) rfl; have d3 := box_keep (h := hs2) 3 (v := .int .i64 52) rfl) | (go_at_call 47; refine use (hi _) ?_; rintro e w3 ⟨rfl, hs3⟩; have d0 := cell_keep (h := hs3) d0; have d1 := cell_keep (h := hs3) d1; have d2 := cell_keep (h := hs3) d2; have d3 := cell_keep (h := hs3) d3) | (go_at_call 38; refine use (hg' _) ?_; rintro e w3 ⟨rfl, rfl⟩))
    go_ret
    exact ⟨rfl, Step.of⟩
theorem rdown_calls (b : Nat) (hb : b < 18446744073709551616) (w : World) (r : Nat) (hr : UpR (flip b) r) : Calls Tryd.prog 22 #[.int .u64 b] w (RetV w (.int .u64 (flip r : Nat))) := by
  have hu := fun w => rup_calls (flip b) (flip_lt hb) w r hr
  have n1 := u64_flip b hb
  have n2 := u64_flip r (upR_lt (flip_lt hb) hr)
  generalize (b : Int) = B at *
  generalize ((flip b : Nat) : Int) = B2 at *
  generalize ((flip r : Nat) : Int) = B3 at *
  go_enter Tryd.func22, Tryd.ntmps22
  go_wp2_with (first | (go_at_call 20; refine use (hu _) ?_; rintro e w1 ⟨rfl, hs1⟩))
  go_ret
  exact ⟨rfl, Step.of⟩
end Tt
