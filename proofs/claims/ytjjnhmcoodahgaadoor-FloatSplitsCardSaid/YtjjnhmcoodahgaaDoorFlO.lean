/- Floats by their bits: Join beside the document's. -/
import Derived.Test.YtjjnhmcoodahgaaDoorFlN
namespace Tt
open Go Go.RowKit Go.Proofs
set_option linter.unusedSimpArgs false
set_option linter.unusedVariables false
set_option maxRecDepth 100000

theorem jbW_one (neg : Bool) (m x : Int) : jbW 1 neg m x = if neg = true then m % 4503599627370496 + 9223372036854775808 else m % 4503599627370496 := rfl
theorem jbW_two (neg : Bool) (m x : Int) (h4 : -1074 ≤ x) (h5 : x ≤ 971) : jbW 2 neg m x = if neg = true then (x + 1075) * 4503599627370496 + m % 4503599627370496 + 9223372036854775808 else (x + 1075) * 4503599627370496 + m % 4503599627370496 := 
  (show jbW 2 neg m x = if (2 : Int) = 2 ∧ -1074 ≤ x ∧ x ≤ 971 then (if neg = true then (x + 1075) * 4503599627370496 + m % 4503599627370496 + 9223372036854775808 else (x + 1075) * 4503599627370496 + m % 4503599627370496) else 0 from rfl).trans (if_pos ⟨rfl, h4, h5⟩)
/-- What the program's Join gives, beside the document's bits r and mark e. -/
def RetJoin64 (w : World) (r e : Int) (E : Ending) (w' : World) : Prop := ∃ fb : Nat, E = .returned (.tuple #[.float .f64 fb, .int .i64 e]) ∧ ((fb : Int) = r ∨ (isNaN64 fb ∧ r = 9221120237041090560)) ∧ Step w w'
theorem join_calls (k : Int) (neg : Bool) (m x : Int) (h0 : 0 ≤ m) (h1 : m < 18446744073709551616) (w : World) (G : Globs w) (r e : Int)
    (hok : (splitW (jbW k neg m x) = #[.int .i64 k, .bool neg, .int .u64 m, .int .i64 x] ∧ r = jbW k neg m x ∧ e = 0) ∨ (splitW (jbW k neg m x) ≠ #[.int .i64 k, .bool neg, .int .u64 m, .int .i64 x] ∧ r = 0 ∧ e = 21)) :
    Calls Tryd.prog 14 #[partsV k neg m x] w (RetJoin64 w r e) := by
  rcases hok with ⟨hs, hr, he⟩ | ⟨hs, hr, he⟩
  · have hsd := (soundW_iff k neg m x h0 h1).2 hs
    clear hs
    subst he
    subst hr
    rcases hsd with ⟨h | h, h2, h3⟩ | ⟨h, h2, h3, h4⟩ | ⟨h, h2, h3, h4⟩ | ⟨h, h2, h3, h4, h5⟩
    · subst h; subst h2; subst h3
      refine use (join_nought neg 0 0 h0 h1 w G (.inl ⟨.inl rfl, rfl, rfl⟩)) ?_
      rintro E w' ⟨rfl, hs⟩
      refine ⟨_, rfl, .inl ?_, hs⟩
      cases neg
      · rfl
      · rw [if_pos rfl, negf64 _ (by omega)]; rfl
    · subst h; subst h2; subst h3
      refine use (join_inf neg 0 0 h0 h1 w G (.inl ⟨.inr rfl, rfl, rfl⟩)) ?_
      rintro E w' ⟨rfl, hs⟩
      refine ⟨_, rfl, .inl ?_, hs⟩
      cases neg
      · rfl
      · rw [if_pos rfl, negf64 _ (by omega)]; rfl
    · subst h; subst h2; subst h3; subst h4
      refine use (join_none false 0 0 h0 h1 w G (.inr (.inl ⟨rfl, rfl, rfl, rfl⟩))) ?_
      rintro E w' ⟨rfl, hs⟩
      refine ⟨_, rfl, .inr ⟨?_, rfl⟩, hs⟩
      rw [if_neg (by simp)]
      unfold isNaN64
      omega
    · subst h
      obtain ⟨mn, rfl⟩ := Int.eq_ofNat_of_zero_le h0
      refine use (join_small neg mn x h0 h1 w G mn (fun w => ffloat_small mn x (by omega) w) (.inr (.inr (.inl ⟨rfl, h2, h3, h4⟩)))) ?_
      rintro E w' ⟨rfl, hs⟩
      refine ⟨_, rfl, .inl ?_, hs⟩
      rw [jbW_one]
      cases neg
      · simp only [Bool.false_eq_true, if_false]; omega
      · simp only [if_true]; rw [negf64 _ (by omega)]; omega
    · subst h
      obtain ⟨mn, rfl⟩ := Int.eq_ofNat_of_zero_le h0
      obtain ⟨rn, hrn⟩ : ∃ rn : Nat, (x + 1075) * 4503599627370496 + (mn : Int) % 4503599627370496 = rn := Int.eq_ofNat_of_zero_le (by omega)
      refine use (join_normal neg mn x h0 h1 w G rn (fun w => ffloat_normal mn x (by omega) (by omega) ⟨by omega, by omega⟩ w rn hrn) (.inr (.inr (.inr ⟨rfl, h2, h3, h4, h5⟩)))) ?_
      rintro E w' ⟨rfl, hs⟩
      refine ⟨_, rfl, .inl ?_, hs⟩
      rw [jbW_two neg mn x h4 h5, hrn]
      cases neg
      · simp only [Bool.false_eq_true, if_false]
      · simp only [if_true]; rw [negf64 _ (by omega)]; omega
  · have hsd := fun h => hs ((soundW_iff k neg m x h0 h1).1 h)
    clear hs
    subst he
    subst hr
    refine use (join_bad k neg m x h0 h1 w G hsd) ?_
    rintro E w' ⟨rfl, hs⟩
    exact ⟨_, rfl, .inl rfl, hs⟩
theorem is_calls (fb : Nat) (r : Int) (h : (fb : Int) = r ∨ (isNaN64 fb ∧ r = 9221120237041090560)) (w : World) : Calls Tryd.prog 17 #[.float .f64 fb, .int .u64 r] w (RetV w (.bool true)) := by
  rcases h with h | ⟨h, h2⟩
  · subst h
    exact is_same fb w
  · subst h2
    exact is_none fb _ h (by omega) (by omega) (by decide) w
theorem jbS_one (neg : Bool) (m x : Int) : jbS 1 neg m x = if neg = true then m % 8388608 + 2147483648 else m % 8388608 := rfl
theorem jbS_two (neg : Bool) (m x : Int) (h4 : -149 ≤ x) (h5 : x ≤ 104) : jbS 2 neg m x = if neg = true then (x + 150) * 8388608 + m % 8388608 + 2147483648 else (x + 150) * 8388608 + m % 8388608 := 
  (show jbS 2 neg m x = if (2 : Int) = 2 ∧ -149 ≤ x ∧ x ≤ 104 then (if neg = true then (x + 150) * 8388608 + m % 8388608 + 2147483648 else (x + 150) * 8388608 + m % 8388608) else 0 from rfl).trans (if_pos ⟨rfl, h4, h5⟩)
/-- What the program's Join gives, beside the document's bits r and mark e. -/
def RetJoin32 (w : World) (r e : Int) (E : Ending) (w' : World) : Prop := ∃ fb : Nat, E = .returned (.tuple #[.float .f32 fb, .int .i64 e]) ∧ ((fb : Int) = r ∨ (isNaN32 fb ∧ r = 2143289344)) ∧ fb < 4294967296 ∧ Step w w'
theorem RetJoin32.mk {w w' : World} {e r : Int} {fb : Nat} (hr : r < 4294967296) (h : (fb : Int) = r) (hs : Step w w') : RetJoin32 w r e (.returned (.tuple #[.float .f32 fb, .int .i64 e])) w' := ⟨fb, rfl, .inl h, by omega, hs⟩
theorem join32_calls (k : Int) (neg : Bool) (m x : Int) (h0 : 0 ≤ m) (h1 : m < 18446744073709551616) (w : World) (G : Globs w) (r e : Int)
    (hok : (splitS (jbS k neg m x) = #[.int .i64 k, .bool neg, .int .u64 m, .int .i64 x] ∧ r = jbS k neg m x ∧ e = 0) ∨ (splitS (jbS k neg m x) ≠ #[.int .i64 k, .bool neg, .int .u64 m, .int .i64 x] ∧ r = 0 ∧ e = 21)) :
    Calls Tryd.prog 15 #[partsV k neg m x] w (RetJoin32 w r e) := by
  rcases hok with ⟨hs, hr, he⟩ | ⟨hs, hr, he⟩
  · have hsd := (soundS_iff k neg m x h0 h1).2 hs
    clear hs
    subst he
    subst hr
    rcases hsd with ⟨h | h, h2, h3⟩ | ⟨h, h2, h3, h4⟩ | ⟨h, h2, h3, h4⟩ | ⟨h, h2, h3, h4, h5⟩
    · subst h; subst h2; subst h3
      refine use (join32_nought neg 0 0 h0 h1 w G (.inl ⟨.inl rfl, rfl, rfl⟩)) ?_
      rintro E w' ⟨rfl, hs⟩
      refine RetJoin32.mk (jbS_range _ _ _ _).2 ?_ hs
      cases neg
      · rfl
      · rw [if_pos rfl, negf32 _ (by omega)]; rfl
    · subst h; subst h2; subst h3
      refine use (join32_inf neg 0 0 h0 h1 w G (.inl ⟨.inr rfl, rfl, rfl⟩)) ?_
      rintro E w' ⟨rfl, hs⟩
      refine RetJoin32.mk (jbS_range _ _ _ _).2 ?_ hs
      cases neg
      · rfl
      · rw [if_pos rfl, negf32 _ (by omega)]; rfl
    · subst h; subst h2; subst h3; subst h4
      refine use (join32_none false 0 0 h0 h1 w G (.inr (.inl ⟨rfl, rfl, rfl, rfl⟩))) ?_
      rintro E w' ⟨b, hb, rfl, hs⟩
      exact ⟨_, rfl, .inr ⟨hb, rfl⟩, hb.1, hs⟩
    · subst h
      obtain ⟨mn, rfl⟩ := Int.eq_ofNat_of_zero_le h0
      refine use (join32_small neg mn x h0 h1 w G mn (fun w => ffloat32_small mn x (by omega) w) (.inr (.inr (.inl ⟨rfl, h2, h3, h4⟩)))) ?_
      rintro E w' ⟨rfl, hs⟩
      refine RetJoin32.mk (jbS_range _ _ _ _).2 ?_ hs
      rw [jbS_one]
      cases neg
      · simp only [Bool.false_eq_true, if_false]; omega
      · simp only [if_true]; rw [negf32 _ (by omega)]; omega
    · subst h
      obtain ⟨mn, rfl⟩ := Int.eq_ofNat_of_zero_le h0
      obtain ⟨rn, hrn⟩ : ∃ rn : Nat, (x + 150) * 8388608 + (mn : Int) % 8388608 = rn := Int.eq_ofNat_of_zero_le (by omega)
      refine use (join32_normal neg mn x h0 h1 w G rn (fun w => ffloat32_normal mn x (by omega) (by omega) ⟨by omega, by omega⟩ w rn hrn) (.inr (.inr (.inr ⟨rfl, h2, h3, h4, h5⟩)))) ?_
      rintro E w' ⟨rfl, hs⟩
      refine RetJoin32.mk (jbS_range _ _ _ _).2 ?_ hs
      rw [jbS_two neg mn x h4 h5, hrn]
      cases neg
      · simp only [Bool.false_eq_true, if_false]
      · simp only [if_true]; rw [negf32 _ (by omega)]; omega
  · have hsd := fun h => hs ((soundS_iff k neg m x h0 h1).1 h)
    clear hs
    subst he
    subst hr
    refine use (join32_bad k neg m x h0 h1 w G hsd) ?_
    rintro E w' ⟨rfl, hs⟩
    exact RetJoin32.mk (by omega) rfl hs
theorem is32_calls (fb : Nat) (r : Int) (hlt : fb < 4294967296) (h : (fb : Int) = r ∨ (isNaN32 fb ∧ r = 2143289344)) (w : World) : Calls Tryd.prog 18 #[.float .f32 fb, .int .u64 r] w (RetV w (.bool true)) := by
  rcases h with h | ⟨h, h2⟩
  · subst h
    exact is32_same fb hlt w
  · subst h2
    exact is32_none fb _ h (by omega) (by omega) (by decide) w
end Tt
