/- ValueFlows: the rows of payments. -/
import Derived.Test.YtjjnhmcoodahgaaVfK
import Derived.Test.YtjjnhmcoodahgaaVfC
import Derived.Test.YtjjnhmcoodahgaaVfD
import Derived.Test.YtjjnhmcoodahgaaVfE
namespace Tt
open Go Go.RowKit Go.Proofs
set_option linter.unusedSimpArgs false
set_option linter.unusedVariables false
set_option maxRecDepth 100000
attribute [local go_sem] max2_int min2_int max_two min_two

theorem badB_false {K W T S : Int} (h : badB K W T S = false) : (1 ≤ K ∧ K ≤ 7) ∧ (0 ≤ W ∧ W ≤ 130) ∧ (1 ≤ T ∧ T ≤ 130) ∧ (0 ≤ S ∧ S ≤ T) ∧ (K = 4 ∨ K = 5 ∨ S = 0) := by
  have h' : ¬ badB K W T S = true := by rw [h]; simp
  by_cases e4 : K = 4
  · subst e4; simp only [badB, Bool.or_eq_true, Bool.and_eq_true, decide_eq_true_eq] at h'; simp at h'; omega
  by_cases e5 : K = 5
  · subst e5; simp only [badB, Bool.or_eq_true, Bool.and_eq_true, decide_eq_true_eq] at h'; simp at h'; omega
  have f4 : (K == 4) = false := beq_f e4
  have f5 : (K == 5) = false := beq_f e5
  simp only [badB, f4, f5, Bool.or_eq_true, Bool.and_eq_true, decide_eq_true_eq] at h'
  simp at h'
  omega

theorem rpays_calls (K W T S k t : Int) (w : World) (hb : badB K W T S = false) (hk : 0 ≤ k ∧ k ≤ 130) (ht : 0 ≤ t ∧ t ≤ 260) :
    Calls Try.prog 31 #[ben K W T S, .int .i64 k, .int .i64 t] w (RetInt w (paysN K W T S k t)) := by
  obtain ⟨⟨h1, h7⟩, hW, hT, hS, _⟩ := badB_false hb
  have hT' : 0 ≤ T ∧ T ≤ 130 := ⟨by omega, hT.2⟩
  rcases (by omega : K = 1 ∨ K = 2 ∨ K = 3 ∨ K = 4 ∨ K = 5 ∨ K = 6 ∨ K = 7) with rfl | rfl | rfl | rfl | rfl | rfl | rfl
  · exact rpays1_calls _ _ _ _ _ _ _ rfl hW hT' hS hk ht
  · exact rpays2_calls _ _ _ _ _ _ _ rfl hW hT' hS hk ht
  · exact rpays3_calls _ _ _ _ _ _ _ rfl hW hT' hS hk ht
  · exact rpays4_calls _ _ _ _ _ _ _ rfl hW hT' hS hk ht
  · exact rpays5_calls _ _ _ _ _ _ _ rfl hW hT' hS hk ht
  · exact rpays6_calls _ _ _ _ _ _ _ rfl hW hT' hS hk ht
  · exact rpays7_calls _ _ _ _ _ _ _ rfl hW hT' hS hk ht
theorem often_calls (K W T S k t : Int) (w : World) (hb : badB K W T S = false) (hk : 0 ≤ k ∧ k ≤ 130) (ht : 0 ≤ t ∧ t ≤ 260) :
    Calls Try.prog 30 #[ben K W T S, .int .i64 k, .int .i64 t] w (RetInt w (paysN K W T S k t)) := by
  obtain ⟨⟨h1, h7⟩, hW, hT, hS, hz⟩ := badB_false hb
  have hT' : 0 ≤ T ∧ T ≤ 130 := ⟨by omega, hT.2⟩
  rcases (by omega : K = 4 ∨ K = 5 ∨ (S = 0 ∧ (K = 1 ∨ K = 2 ∨ K = 3 ∨ K = 6 ∨ K = 7))) with rfl | rfl | ⟨rfl, rfl | rfl | rfl | rfl | rfl⟩
  · exact often4_calls _ _ _ _ _ _ _ rfl hW hT' hS hk ht
  · exact often5_calls _ _ _ _ _ _ _ rfl hW hT' hS hk ht
  · exact often1_calls _ _ _ _ _ _ rfl hW hT' hk ht
  · exact often2_calls _ _ _ _ _ _ rfl hW hT' hk ht
  · exact often3_calls _ _ _ _ _ _ rfl hW hT' hk ht
  · exact often6_calls _ _ _ _ _ _ rfl hW hT' hk ht
  · exact often7_calls _ _ _ _ _ _ rfl hW hT' hk ht

/-- The payments at the times below n: time and amount, one after another. -/
def fl (f : Int → Int) : Nat → List Int
  | 0 => []
  | n + 1 => if 0 < f n then fl f n ++ [(n : Int), f n] else fl f n
def cnt (f : Int → Int) : Nat → Nat
  | 0 => 0
  | n + 1 => if 0 < f n then cnt f n + 1 else cnt f n
theorem fl_length (f : Int → Int) (n : Nat) : (fl f n).length = 2 * cnt f n := by
  induction n with
  | zero => rfl
  | succ n ih => unfold fl cnt; split <;> simp [ih]; omega
theorem cnt_le (f : Int → Int) (n : Nat) : cnt f n ≤ n := by
  induction n with
  | zero => exact Nat.le_refl _
  | succ n ih => unfold cnt; split <;> omega
theorem fl_stop (f : Int → Int) {a b : Nat} (hab : a ≤ b) (h : ∀ t : Nat, a ≤ t → t < b → f t ≤ 0) : fl f b = fl f a ∧ cnt f b = cnt f a := by
  induction b with
  | zero => obtain rfl : a = 0 := by omega
            exact ⟨rfl, rfl⟩
  | succ b ih =>
    rcases Nat.lt_or_ge a (b + 1) with hl | hl
    · have h0 := h b (by omega) (by omega)
      have e1 : fl f (b + 1) = fl f b := by show (if 0 < f b then _ else _) = _; rw [if_neg (by omega)]
      have e2 : cnt f (b + 1) = cnt f b := by show (if 0 < f b then _ else _) = _; rw [if_neg (by omega)]
      rw [e1, e2]
      exact ih (by omega) (fun t h1 h2 => h t h1 (by omega))
    · obtain rfl : a = b + 1 := by omega
      exact ⟨rfl, rfl⟩
theorem pays_late {K W T S k t : Int} (h : W + T < t) : paysN K W T S k t ≤ 0 := by
  unfold paysN
  (repeat' split) <;> omega
theorem pays_hi {K W T S k t : Int} (hW : 0 ≤ W ∧ W ≤ 130) (hT : 1 ≤ T ∧ T ≤ 130) (hk : 0 ≤ k ∧ k ≤ 130) : -1000 ≤ paysN K W T S k t ∧ paysN K W T S k t ≤ 1000 := by
  unfold paysN
  (repeat' split) <;> omega

theorem info_flow : (Try.prog.info? 34).map (fun i => (i.zero, i.size, i.bytes)) = some (some (.agg #[.int .i64 0, .int .i64 0]), 2, 16) := by kernel_rfl
theorem two_nums (a b : Int) : ∀ u ∈ nums .i64 [a, b], u.oneCell' = true := by
  intro u hu
  simp only [nums, List.map_cons, List.map_nil, List.mem_cons, List.not_mem_nil, or_false] at hu
  rcases hu with rfl | rfl <;> rfl

/-- A row of payments of one's own, and a mark. -/
def RetFlows (w : World) (l : List Int) (n : Nat) (g : Int) (e : Ending) (w' : World) : Prop :=
  ∃ v, e = .returned (.tuple #[v, .int .i64 g]) ∧ w'.ownsRow w.heap.size 34 2 v n (nums .i64 l) ∧ Step w w'

theorem rflows_bad (K W T S k : Int) (w : World) (hb : badB K W T S = true) : Calls Try.prog 8 #[ben K W T S, .int .i64 k] w (RetFlows w [] 0 130) := by
  have hc := fun w => rcheck_calls K W T S w 130 (by rw [hb]; rfl)
  unfold ben at hc ⊢
  have hu := Try.underlying23
  go_enter Try.func8, Try.ntmps8
  go_wp2_with (first | (go_at_call 10; refine use (hc _) ?_; rintro e w1 ⟨rfl, hs1⟩))
  go_ret2
  exact ⟨_, rfl, own_nil _ _ _ _, Step.of⟩
theorem rflows_far (K W T S k : Int) (w : World) (hb : badB K W T S = false) (hk : k < 0 ∨ 130 < k) : Calls Try.prog 8 #[ben K W T S, .int .i64 k] w (RetFlows w [] 0 1) := by
  have hc := fun w => rcheck_calls K W T S w 0 (by rw [hb]; rfl)
  unfold ben at hc ⊢
  have hu := Try.underlying23
  by_cases h0 : k < 0
  · have f0 : decide (k < 0) = true := decide_eq_true h0
    go_enter Try.func8, Try.ntmps8
    go_wp2_with (first | (go_at_call 10; refine use (hc _) ?_; rintro e w1 ⟨rfl, hs1⟩))
    go_ret2
    exact ⟨_, rfl, own_nil _ _ _ _, Step.of⟩
  · have f0 : decide (k < 0) = false := decide_eq_false h0
    have f1 : decide (130 < k) = true := decide_eq_true (by omega)
    go_enter Try.func8, Try.ntmps8
    go_wp2_with (first | (go_at_call 10; refine use (hc _) ?_; rintro e w1 ⟨rfl, hs1⟩))
    go_ret2
    exact ⟨_, rfl, own_nil _ _ _ _, Step.of⟩
theorem flows_bad (K W T S k : Int) (w : World) (hb : badB K W T S = true) : Calls Try.prog 7 #[ben K W T S, .int .i64 k] w (RetFlows w [] 0 130) := by
  have hc := fun w => vcheck_calls K W T S w 130 (by rw [hb]; rfl)
  unfold ben at hc ⊢
  have hu := Try.underlying23
  go_enter Try.func7, Try.ntmps7
  go_wp2_with (first | (go_at_call 9; refine use (hc _) ?_; rintro e w1 ⟨rfl, hs1⟩))
  go_ret2
  exact ⟨_, rfl, own_nil _ _ _ _, Step.of⟩
theorem flows_far (K W T S k : Int) (w : World) (hb : badB K W T S = false) (hk : k < 0 ∨ 130 < k) : Calls Try.prog 7 #[ben K W T S, .int .i64 k] w (RetFlows w [] 0 1) := by
  have hc := fun w => vcheck_calls K W T S w 0 (by rw [hb]; rfl)
  have hy := fun w => vyear_calls k w false (by simp; omega)
  unfold ben at hc ⊢
  have hu := Try.underlying23
  go_enter Try.func7, Try.ntmps7
  go_wp2_with (first | (go_at_call 9; refine use (hc _) ?_; rintro e w1 ⟨rfl, hs1⟩) | (go_at_call 29; refine use (hy _) ?_; rintro e w1 ⟨rfl, rfl⟩))
  go_ret2
  exact ⟨_, rfl, own_nil _ _ _ _, Step.of⟩

set_option maxHeartbeats 4000000 in
theorem rflows_calls (K W T S k : Int) (w : World) (hb : badB K W T S = false) (hk : 0 ≤ k ∧ k ≤ 130) :
    Calls Try.prog 8 #[ben K W T S, .int .i64 k] w (RetFlows w (fl (paysN K W T S k) (W + T + 1).toNat) (cnt (paysN K W T S k) (W + T + 1).toNat) 0) := by
  obtain ⟨_, hW, hT, _, _⟩ := badB_false hb
  have hc := fun w => rcheck_calls K W T S w 0 (by rw [hb]; rfl)
  have hp := fun t (ht : 0 ≤ t ∧ t ≤ 260) w => rpays_calls K W T S k t w hb hk ht
  have hh := fun t => pays_hi (K := K) (S := S) (t := t) hW hT hk
  unfold ben at hc hp ⊢
  have HP := Lib.hid hp; clear hp
  have HH := Lib.hid hh; clear hh
  have HBB := Lib.hid hb; clear hb
  generalize hf : paysN K W T S k = f at HP HH ⊢
  have HF := Lib.hid hf; clear hf
  have hu := Try.underlying23
  have huf := Try.underlying34
  have f0 : decide (k < 0) = false := decide_eq_false (by omega)
  have f1 : decide (130 < k) = false := decide_eq_false (by omega)
  go_enter Try.func8, Try.ntmps8
  go_wp2_with (first | (go_at_call 10; refine use (hc _) ?_; rintro e w1 ⟨rfl, hs1⟩))
  go_loopw [7, 8] (fun v7 v8 wr => ∃ n : Nat, v8 = .int .i64 n ∧ (n : Int) ≤ W + T + 1 ∧ wr.ownsRow (w.heap.size + 1) 34 2 v7 (cnt f n) (nums .i64 (fl f n)) ∧ Ext (w.alloc (.cells #[.int .i64 K, .int .i64 W, .int .i64 T, .int .i64 S] 23)) wr) (fun _ v _ => (W + T + 1 - intOf v).toNat)
  case atStart => exact ⟨0, rfl, by omega, own_nil _ _ _ _, inferInstance⟩
  case round =>
    obtain ⟨n, rfl, hn, HO, HE⟩ := hrel
    have c0 : wr.cell? ⟨w.heap.size, 0, none⟩ = some (.int .i64 K) := HE.cell ((World.cell?_alloc_mark w #[.int .i64 K, .int .i64 W, .int .i64 T, .int .i64 S] 23 (0, 0) 0).trans rfl)
    have c1 : wr.cell? ⟨w.heap.size, 1, none⟩ = some (.int .i64 W) := HE.cell ((World.cell?_alloc_mark w #[.int .i64 K, .int .i64 W, .int .i64 T, .int .i64 S] 23 (0, 0) 1).trans rfl)
    have c2 : wr.cell? ⟨w.heap.size, 2, none⟩ = some (.int .i64 T) := HE.cell ((World.cell?_alloc_mark w #[.int .i64 K, .int .i64 W, .int .i64 T, .int .i64 S] 23 (0, 0) 2).trans rfl)
    have c3 : wr.cell? ⟨w.heap.size, 3, none⟩ = some (.int .i64 S) := HE.cell ((World.cell?_alloc_mark w #[.int .i64 K, .int .i64 W, .int .i64 T, .int .i64 S] 23 (0, 0) 3).trans rfl)
    have hcl := cnt_le f n
    have HW : Ext w wr := Ext.trans (b := w.alloc (.cells #[.int .i64 K, .int .i64 W, .int .i64 T, .int .i64 S] 23)) inferInstance HE
    by_cases hq : (n : Int) < W + T + 1
    · have hq' : (n : Int) ≤ W + T := by omega
      by_cases hz : 0 < f n
      · go_wp2_with (first | (go_at_call 31; refine use (HP.out _ ⟨by omega, by omega⟩ _) ?_; rintro e w2 ⟨rfl, hs2⟩) | (at_builtin; go_loud (refine app_one (w0 := (w.alloc (.cells #[.int .i64 K, .int .i64 W, .int .i64 T, .int .i64 S] 23))) (w.heap.size + 1) (.tmp 40) (.tmp 44) _ _ (.agg #[.int .i64 0, .int .i64 0]) 2 16 rfl rfl Try.underlying25 info_flow rfl (by omega) (by omega) _ (cnt f n) (nums .i64 (fl f n)) (nums .i64 [(n : Int), f n]) rfl rfl rfl (two_nums _ _) (own_ext HO) ?_ (by have := (inferInstance : Ext (w.alloc (.cells #[.int .i64 K, .int .i64 W, .int .i64 T, .int .i64 S] 23)) w2).out.size; simp at this; omega) (by simp) (by omega) ?_; (exact inferInstance); intro v1 w3 HO1 HE1 _ _)))
        refine ⟨⟨n + 1, by simp, by omega, ?_, ?_⟩, by simp [intOf]; omega⟩
        · have e1 : fl f (n + 1) = fl f n ++ [(n : Int), f n] := by show (if 0 < f n then _ else _) = _; rw [if_pos hz]
          have e2 : cnt f (n + 1) = cnt f n + 1 := by show (if 0 < f n then _ else _) = _; rw [if_pos hz]
          rw [e1, e2]
          simpa [nums] using HO1
        · exact HE1
      · go_wp2_with (first | (go_at_call 31; refine use (HP.out _ ⟨by omega, by omega⟩ _) ?_; rintro e w2 ⟨rfl, hs2⟩))
        refine ⟨⟨n + 1, by simp, by omega, ?_, inferInstance⟩, by simp [intOf]; omega⟩
        have e1 : fl f (n + 1) = fl f n := by show (if 0 < f n then _ else _) = _; rw [if_neg (by omega)]
        have e2 : cnt f (n + 1) = cnt f n := by show (if 0 < f n then _ else _) = _; rw [if_neg (by omega)]
        rw [e1, e2]
        exact own_ext HO
    · obtain hne : n = (W + T + 1).toNat := by omega
      go_wp2
      go_ret2
      rw [← hne]
      exact ⟨_, rfl, own_low HO (by omega), ⟨HW.out⟩⟩
set_option maxHeartbeats 4000000 in
theorem flows_a (K W T S k : Int) (w : World) (hb : badB K W T S = false) (hk : 0 ≤ k ∧ k ≤ 130) (hM : k + 1 ≤ W + T) :
    Calls Try.prog 7 #[ben K W T S, .int .i64 k] w (RetFlows w (fl (paysN K W T S k) (W + T + 1).toNat) (cnt (paysN K W T S k) (W + T + 1).toNat) 0) := by
  obtain ⟨_, hW, hT, _, _⟩ := badB_false hb
  have hc := fun w => vcheck_calls K W T S w 0 (by rw [hb]; rfl)
  have hy := fun w => vyear_calls k w true (by simp; omega)
  have hp := fun t (ht : 0 ≤ t ∧ t ≤ 260) w => often_calls K W T S k t w hb hk ht
  have hh := fun t => pays_hi (K := K) (S := S) (t := t) hW hT hk
  have hst := fl_stop (paysN K W T S k) (a := (W + T + 1).toNat) (b := (W + T + 1).toNat) (by omega) (fun t h1 h2 => pays_late (by omega))
  unfold ben at hc hp ⊢
  have HP := Lib.hid hp; clear hp
  have HH := Lib.hid hh; clear hh
  have HBB := Lib.hid hb; clear hb
  generalize hf : paysN K W T S k = f at HP HH hst ⊢
  have HF := Lib.hid hf; clear hf
  clear hst
  have hu := Try.underlying23
  have huf := Try.underlying34
  have hmx : mx (W + T) (k + 1) = W + T := by have := mx_le (W + T) (k + 1); omega
  go_enter Try.func7, Try.ntmps7
  go_wp2_with (first | (go_at_call 9; refine use (hc _) ?_; rintro e w1 ⟨rfl, hs1⟩; have k1 := box_keep (w := w) (w1 := w1) (cs := #[.int .i64 K, .int .i64 W, .int .i64 T, .int .i64 S]) 1 (v := .int .i64 W) rfl; have k2 := box_keep (w := w) (w1 := w1) (cs := #[.int .i64 K, .int .i64 W, .int .i64 T, .int .i64 S]) 2 (v := .int .i64 T) rfl) | (go_at_call 29; refine use (hy _) ?_; rintro e w1 ⟨rfl, rfl⟩))
  go_loopw [7, 27] (fun v7 v27 wr => ∃ n : Nat, v27 = .int .i64 n ∧ (n : Int) ≤ W + T + 1 ∧ wr.ownsRow (w.heap.size + 1) 34 2 v7 (cnt f n) (nums .i64 (fl f n)) ∧ Ext (w.alloc (.cells #[.int .i64 K, .int .i64 W, .int .i64 T, .int .i64 S] 23)) wr) (fun _ v _ => (W + T + 1 - intOf v).toNat)
  case atStart => exact ⟨0, rfl, by omega, own_nil _ _ _ _, inferInstance⟩
  case round =>
    obtain ⟨n, rfl, hn, HO, HE⟩ := hrel
    have c0 : wr.cell? ⟨w.heap.size, 0, none⟩ = some (.int .i64 K) := HE.cell ((World.cell?_alloc_mark w #[.int .i64 K, .int .i64 W, .int .i64 T, .int .i64 S] 23 (0, 0) 0).trans rfl)
    have c1 : wr.cell? ⟨w.heap.size, 1, none⟩ = some (.int .i64 W) := HE.cell ((World.cell?_alloc_mark w #[.int .i64 K, .int .i64 W, .int .i64 T, .int .i64 S] 23 (0, 0) 1).trans rfl)
    have c2 : wr.cell? ⟨w.heap.size, 2, none⟩ = some (.int .i64 T) := HE.cell ((World.cell?_alloc_mark w #[.int .i64 K, .int .i64 W, .int .i64 T, .int .i64 S] 23 (0, 0) 2).trans rfl)
    have c3 : wr.cell? ⟨w.heap.size, 3, none⟩ = some (.int .i64 S) := HE.cell ((World.cell?_alloc_mark w #[.int .i64 K, .int .i64 W, .int .i64 T, .int .i64 S] 23 (0, 0) 3).trans rfl)
    have hcl := cnt_le f n
    have HW : Ext w wr := Ext.trans (b := (w.alloc (.cells #[.int .i64 K, .int .i64 W, .int .i64 T, .int .i64 S] 23))) inferInstance HE
    by_cases hq : (n : Int) < W + T + 1
    · have hq' : (n : Int) ≤ W + T := by omega
      by_cases hz : 0 < f n
      · go_wp2_with (first | (go_at_call 30; refine use (HP.out _ ⟨by omega, by omega⟩ _) ?_; rintro e w2 ⟨rfl, hs2⟩) | (at_builtin; refine app_one (w0 := (w.alloc (.cells #[.int .i64 K, .int .i64 W, .int .i64 T, .int .i64 S] 23))) (w.heap.size + 1) (.tmp 36) (.tmp 40) _ _ (.agg #[.int .i64 0, .int .i64 0]) 2 16 rfl rfl Try.underlying25 info_flow rfl (by omega) (by omega) _ (cnt f n) (nums .i64 (fl f n)) (nums .i64 [(n : Int), f n]) rfl rfl rfl (two_nums _ _) (own_ext HO) ?_ (by have := (inferInstance : Ext (w.alloc (.cells #[.int .i64 K, .int .i64 W, .int .i64 T, .int .i64 S] 23)) w2).out.size; simp at this; omega) (by simp) (by omega) ?_; (exact inferInstance); intro v1 w3 HO1 HE1 _ _))
        refine ⟨⟨n + 1, by simp, by omega, ?_, ?_⟩, by simp [intOf]; omega⟩
        · have e1 : fl f (n + 1) = fl f n ++ [(n : Int), f n] := by show (if 0 < f n then _ else _) = _; rw [if_pos hz]
          have e2 : cnt f (n + 1) = cnt f n + 1 := by show (if 0 < f n then _ else _) = _; rw [if_pos hz]
          rw [e1, e2]
          simpa [nums] using HO1
        · exact HE1
      · go_wp2_with (first | (go_at_call 30; refine use (HP.out _ ⟨by omega, by omega⟩ _) ?_; rintro e w2 ⟨rfl, hs2⟩))
        refine ⟨⟨n + 1, by simp, by omega, ?_, inferInstance⟩, by simp [intOf]; omega⟩
        have e1 : fl f (n + 1) = fl f n := by show (if 0 < f n then _ else _) = _; rw [if_neg (by omega)]
        have e2 : cnt f (n + 1) = cnt f n := by show (if 0 < f n then _ else _) = _; rw [if_neg (by omega)]
        rw [e1, e2]
        exact own_ext HO
    · obtain hne : n = (W + T + 1).toNat := by omega
      go_wp2
      go_ret2
      rw [← hne]
      exact ⟨_, rfl, own_low HO (by omega), ⟨HW.out⟩⟩
set_option maxHeartbeats 4000000 in
theorem flows_b (K W T S k : Int) (w : World) (hb : badB K W T S = false) (hk : 0 ≤ k ∧ k ≤ 130) (hM : W + T ≤ k + 1) :
    Calls Try.prog 7 #[ben K W T S, .int .i64 k] w (RetFlows w (fl (paysN K W T S k) (W + T + 1).toNat) (cnt (paysN K W T S k) (W + T + 1).toNat) 0) := by
  obtain ⟨_, hW, hT, _, _⟩ := badB_false hb
  have hc := fun w => vcheck_calls K W T S w 0 (by rw [hb]; rfl)
  have hy := fun w => vyear_calls k w true (by simp; omega)
  have hp := fun t (ht : 0 ≤ t ∧ t ≤ 260) w => often_calls K W T S k t w hb hk ht
  have hh := fun t => pays_hi (K := K) (S := S) (t := t) hW hT hk
  have hst := fl_stop (paysN K W T S k) (a := (W + T + 1).toNat) (b := (k + 1 + 1).toNat) (by omega) (fun t h1 h2 => pays_late (by omega))
  unfold ben at hc hp ⊢
  have HP := Lib.hid hp; clear hp
  have HH := Lib.hid hh; clear hh
  have HBB := Lib.hid hb; clear hb
  generalize hf : paysN K W T S k = f at HP HH hst ⊢
  have HF := Lib.hid hf; clear hf
  have HST := Lib.hid hst; clear hst
  have hu := Try.underlying23
  have huf := Try.underlying34
  have hmx : mx (W + T) (k + 1) = k + 1 := by have := mx_le (W + T) (k + 1); omega
  go_enter Try.func7, Try.ntmps7
  go_wp2_with (first | (go_at_call 9; refine use (hc _) ?_; rintro e w1 ⟨rfl, hs1⟩; have k1 := box_keep (w := w) (w1 := w1) (cs := #[.int .i64 K, .int .i64 W, .int .i64 T, .int .i64 S]) 1 (v := .int .i64 W) rfl; have k2 := box_keep (w := w) (w1 := w1) (cs := #[.int .i64 K, .int .i64 W, .int .i64 T, .int .i64 S]) 2 (v := .int .i64 T) rfl) | (go_at_call 29; refine use (hy _) ?_; rintro e w1 ⟨rfl, rfl⟩))
  go_loopw [7, 27] (fun v7 v27 wr => ∃ n : Nat, v27 = .int .i64 n ∧ (n : Int) ≤ k + 1 + 1 ∧ wr.ownsRow (w.heap.size + 1) 34 2 v7 (cnt f n) (nums .i64 (fl f n)) ∧ Ext (w.alloc (.cells #[.int .i64 K, .int .i64 W, .int .i64 T, .int .i64 S] 23)) wr) (fun _ v _ => (k + 1 + 1 - intOf v).toNat)
  case atStart => exact ⟨0, rfl, by omega, own_nil _ _ _ _, inferInstance⟩
  case round =>
    obtain ⟨n, rfl, hn, HO, HE⟩ := hrel
    have c0 : wr.cell? ⟨w.heap.size, 0, none⟩ = some (.int .i64 K) := HE.cell ((World.cell?_alloc_mark w #[.int .i64 K, .int .i64 W, .int .i64 T, .int .i64 S] 23 (0, 0) 0).trans rfl)
    have c1 : wr.cell? ⟨w.heap.size, 1, none⟩ = some (.int .i64 W) := HE.cell ((World.cell?_alloc_mark w #[.int .i64 K, .int .i64 W, .int .i64 T, .int .i64 S] 23 (0, 0) 1).trans rfl)
    have c2 : wr.cell? ⟨w.heap.size, 2, none⟩ = some (.int .i64 T) := HE.cell ((World.cell?_alloc_mark w #[.int .i64 K, .int .i64 W, .int .i64 T, .int .i64 S] 23 (0, 0) 2).trans rfl)
    have c3 : wr.cell? ⟨w.heap.size, 3, none⟩ = some (.int .i64 S) := HE.cell ((World.cell?_alloc_mark w #[.int .i64 K, .int .i64 W, .int .i64 T, .int .i64 S] 23 (0, 0) 3).trans rfl)
    have hcl := cnt_le f n
    have HW : Ext w wr := Ext.trans (b := (w.alloc (.cells #[.int .i64 K, .int .i64 W, .int .i64 T, .int .i64 S] 23))) inferInstance HE
    by_cases hq : (n : Int) < k + 1 + 1
    · have hq' : (n : Int) ≤ k + 1 := by omega
      by_cases hz : 0 < f n
      · go_wp2_with (first | (go_at_call 30; refine use (HP.out _ ⟨by omega, by omega⟩ _) ?_; rintro e w2 ⟨rfl, hs2⟩) | (at_builtin; refine app_one (w0 := (w.alloc (.cells #[.int .i64 K, .int .i64 W, .int .i64 T, .int .i64 S] 23))) (w.heap.size + 1) (.tmp 36) (.tmp 40) _ _ (.agg #[.int .i64 0, .int .i64 0]) 2 16 rfl rfl Try.underlying25 info_flow rfl (by omega) (by omega) _ (cnt f n) (nums .i64 (fl f n)) (nums .i64 [(n : Int), f n]) rfl rfl rfl (two_nums _ _) (own_ext HO) ?_ (by have := (inferInstance : Ext (w.alloc (.cells #[.int .i64 K, .int .i64 W, .int .i64 T, .int .i64 S] 23)) w2).out.size; simp at this; omega) (by simp) (by omega) ?_; (exact inferInstance); intro v1 w3 HO1 HE1 _ _))
        refine ⟨⟨n + 1, by simp, by omega, ?_, ?_⟩, by simp [intOf]; omega⟩
        · have e1 : fl f (n + 1) = fl f n ++ [(n : Int), f n] := by show (if 0 < f n then _ else _) = _; rw [if_pos hz]
          have e2 : cnt f (n + 1) = cnt f n + 1 := by show (if 0 < f n then _ else _) = _; rw [if_pos hz]
          rw [e1, e2]
          simpa [nums] using HO1
        · exact HE1
      · go_wp2_with (first | (go_at_call 30; refine use (HP.out _ ⟨by omega, by omega⟩ _) ?_; rintro e w2 ⟨rfl, hs2⟩))
        refine ⟨⟨n + 1, by simp, by omega, ?_, inferInstance⟩, by simp [intOf]; omega⟩
        have e1 : fl f (n + 1) = fl f n := by show (if 0 < f n then _ else _) = _; rw [if_neg (by omega)]
        have e2 : cnt f (n + 1) = cnt f n := by show (if 0 < f n then _ else _) = _; rw [if_neg (by omega)]
        rw [e1, e2]
        exact own_ext HO
    · obtain hne : n = (k + 1 + 1).toNat := by omega
      go_wp2
      go_ret2
      rw [← HST.out.1, ← HST.out.2, ← hne]
      exact ⟨_, rfl, own_low HO (by omega), ⟨HW.out⟩⟩
end Tt
