/- FloatSteps: the walk of the law. -/
import Derived.Test.YtjjnhmcoodahgaaDoorFmJ
import Derived.Test.YtjjnhmcoodahgaaDoorFmH
namespace Tt
open Go Go.RowKit Go.Proofs
set_option linter.unusedSimpArgs false
set_option linter.unusedVariables false
set_option maxRecDepth 100000

theorem rgap_calls (b : Nat) (hb : b < 18446744073709551616) (w : World) (g : Nat) (ok : Bool) (hr : GapR b g ok) : Calls Tryd.prog 30 #[.int .u64 b] w (RetV w (.tuple #[.int .u64 g, .bool ok])) := by
  rcases hr with ⟨h, rfl, rfl⟩ | ⟨h, rfl, rfl⟩
  · have hw := wide_calls
    have hfi := fun w => wfinite_calls b (by omega) (by omega) w false (bne_f (by omega))
    unfold wideV at hw hfi
    have hu := Tryd.underlying31
    clear hb h
    generalize (b : Int) = B at *
    go_enter Tryd.func30, Tryd.ntmps30
    go_wp2_with (first | (go_at_call 9; refine use (hw _) ?_; rintro e w1 ⟨rfl, hs1⟩) | (go_at_call 55; refine use (hfi _) ?_; rintro e w2 ⟨rfl, hs2⟩))
    go_ret2
    exact ⟨rfl, Step.of⟩
  · rcases parts_five 2047 4503599627370496 (-1074) ((b : Int) / 4503599627370496 % 2048) ((b : Int) % 4503599627370496) (decide (9223372036854775808 ≤ (b : Int))) with ⟨a, _, c⟩ | ⟨a, _, c⟩ | ⟨a, a2, a3, c⟩ | ⟨a, a2, a3, c⟩ | ⟨a, a2, c⟩
    · omega
    · omega
    · exact rgap_fin b hb w _ _ _ _ _ (by omega) c h (.inl ⟨by omega, by omega⟩)
    · exact rgap_fin b hb w _ _ _ _ _ (by omega) c h (.inl ⟨by omega, by omega⟩)
    · exact rgap_fin b hb w _ _ _ _ _ (by omega) c h (.inr ⟨rfl, by omega⟩)
theorem up_one : UpR 4607182418800017408 4607182418800017409 := .inr (.inr (.inr (.inr ⟨by unfold isNaN64; omega, by omega, by omega, rfl⟩)))
set_option maxHeartbeats 8000000 in
theorem steps_law (an bn : Nat) (ha : an < 18446744073709551616) (hb : bn < 18446744073709551616) (w : World) (G : GlobW w) :
    Calls Tryd.prog 4 #[.int .u64 an, .int .u64 bn] w (RetV w (.bool true)) := by
  obtain ⟨ua, hua⟩ := upR_some an ha
  obtain ⟨da, hda⟩ := upR_some (flip an) (flip_lt ha)
  obtain ⟨ov, hov⟩ := ordR_some an bn ha hb
  obtain ⟨sn, sok, hst⟩ := stepsR_some an bn
  obtain ⟨g, gok, hg⟩ := gapR_some an
  have h1 : ∀ w v, v = an ∨ v = bn → (callFunc 8 #[.int .u64 (v : Nat)]).run Tryd.prog w = .ok (.value (.float .f64 v)) w := fun w v _ => by simpa using f64frombits v w
  have hf1 := fun w => h1 w an (.inl rfl)
  have hf2 := fun w => h1 w bn (.inr rfl)
  clear h1
  have hup : ∀ w v r, (v = an ∧ r = ua) ∨ (v = 4607182418800017408 ∧ r = 4607182418800017409) → Calls Tryd.prog 19 #[.float .f64 v] w (RetX w (.float .f64 r)) := by
    rintro w v r (⟨rfl, rfl⟩ | ⟨rfl, rfl⟩)
    · exact fup_calls _ ha w _ hua
    · exact fup_calls _ (by omega) w _ up_one
  have hru := fun w => rup_calls an ha w ua hua
  have hdn := fun w => fdown_calls an ha w da hda
  have hrd := fun w => rdown_calls an ha w da hda
  have hor := fun w => forder_calls an bn ha hb w ov hov
  have hro := fun w => rorder_calls an bn ha hb w ov hov
  have hsa := fun w => fsame_calls an bn ha hb w ov hov
  have hrs := fun w => rsame_calls an bn ha hb w ov hov
  have hst1 := fun w => fsteps_calls an bn ha hb w sn sok hst
  have hst2 := fun w => rsteps_calls an bn ha hb w sn sok hst
  have hg1 := fun w G => fgap_calls an ha w G g gok hg
  have hg2 := fun w => rgap_calls an ha w g gok hg
  have o1 : FloatKind.f64.format.order 4607182418800017409 4607182418800017408 = some .gt := by decide +kernel
  generalize flip da = fd at *
  clear hua hda hov hst hg ha hb
  have HUP := Lib.hid hup; clear hup
  have HRU := Lib.hid hru; clear hru
  have HDN := Lib.hid hdn; clear hdn
  have HRD := Lib.hid hrd; clear hrd
  have HOR := Lib.hid hor; clear hor
  have HRO := Lib.hid hro; clear hro
  have HSA := Lib.hid hsa; clear hsa
  have HRS := Lib.hid hrs; clear hrs
  have HS1 := Lib.hid hst1; clear hst1
  have HS2 := Lib.hid hst2; clear hst2
  have HG1 := Lib.hid hg1; clear hg1
  have HG2 := Lib.hid hg2; clear hg2
  have HG := Lib.hid G; clear G
  go_enter Tryd.func4, Tryd.ntmps4
  go_wp2_with (first
    | (go_at_call 19; refine use (HUP.out _ _ _ (by first | exact .inl ⟨rfl, rfl⟩ | exact .inr ⟨rfl, rfl⟩)) ?_; rintro e w1 ⟨rfl, rfl⟩)
    | (go_at_call 20; refine use (HRU.out _) ?_; rintro e w2 ⟨rfl, hs2⟩)
    | (go_at_call 17; refine use (is_same _ _) ?_; rintro e w3 ⟨rfl, hs3⟩)
    | (go_at_call 21; refine use (HDN.out _) ?_; rintro e w4 ⟨rfl, rfl⟩)
    | (go_at_call 22; refine use (HRD.out _) ?_; rintro e w5 ⟨rfl, hs5⟩)
    | (go_at_call 23; refine use (HOR.out _) ?_; rintro e w6 ⟨rfl, hs6⟩)
    | (go_at_call 24; refine use (HRO.out _) ?_; rintro e w7 ⟨rfl, hs7⟩)
    | (go_at_call 25; refine use (HSA.out _) ?_; rintro e w8 ⟨rfl, hs8⟩)
    | (go_at_call 26; refine use (HRS.out _) ?_; rintro e w9 ⟨rfl, hs9⟩)
    | (go_at_call 27; refine use (HS1.out _) ?_; rintro e w10 ⟨rfl, hs10⟩)
    | (go_at_call 28; refine use (HS2.out _) ?_; rintro e w11 ⟨rfl, hs11⟩)
    | (go_at_call 29; refine use (HG1.out _ (GlobW.ext HG.out)) ?_; rintro e w12 ⟨rfl, hs12⟩)
    | (go_at_call 30; refine use (HG2.out _) ?_; rintro e w13 ⟨rfl, hs13⟩))
  go_ret
  exact ⟨rfl, Step.of⟩
end Tt
