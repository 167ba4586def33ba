/- Exact numbers, as the document keeps them: Make, Sign. -/
import Derived.Test.YtjjnhmcoodahgaaDoorBsI
import Derived.Test.YtjjnhmcoodahgaaDoorRat
import Derived.Laws.Rows
import Derived.Laws.ResultCell
namespace Tt
open Go Go.RowKit Go.Proofs
set_option linter.unusedSimpArgs false
set_option linter.unusedVariables false
set_option maxRecDepth 100000

/-- A number lies apart from a cell that holds no whole number. -/
theorem Ints.setc {w : World} {k : IntKind} {A : Option Addr} {xs : List Int} (h : Ints w k A xs) {p : Addr} {u : Value} (hp : w.cell? p = some u) (hu : ∀ k x, u ≠ .int k x) (y : Value) : Ints (w.setCell p y) k A xs := by
  intro i hi
  obtain ⟨ad, rfl, hc⟩ := h i hi
  refine ⟨ad, rfl, ?_⟩
  rw [World.cell?_setCell_other _ _ _ _ (fun e => hu _ _ (Option.some.inj (hp.symm.trans (e ▸ hc))))]
  exact hc
theorem IsNat.setc {w : World} {v : Value} {n : Nat} (h : IsNat w v n) {p : Addr} {u : Value} (hp : w.cell? p = some u) (hu : ∀ k x, u ≠ .int k x) (y : Value) : IsNat (w.setCell p y) v n := by
  obtain ⟨A, c, l, e1, e2, e3, e4, e5⟩ := h; exact ⟨A, c, l, e1, e2, e3, e4.setc hp hu y, e5⟩
theorem IsNat.slice {w : World} {v : Value} {n : Nat} (h : IsNat w v n) : ∃ A k c, v = .slice A k c := by
  obtain ⟨A, c, l, e1, _⟩ := h; exact ⟨A, l.length, c, e1⟩
theorem IsNat.q3 {w : World} {v : Value} {n : Nat} {g : Nat} {T : TypeId} {b : Bool} {A B : Option Addr} {k c k' c' : Nat} (h : IsNat w v n) (B0 : Blk w g T [.bool b, .slice A k c, .slice B k' c']) (y0 : Bool) (y1 y2 : Value) :
    IsNat (((w.setCell ⟨g, 0, none⟩ (.bool y0)).setCell ⟨g, 1, none⟩ y1).setCell ⟨g, 2, none⟩ y2) v n :=
  ((h.setc (B0.cell 0) (fun _ _ => by simp) _).setc ((B0.set 0 _).cell 1) (fun _ _ => by simp) _).setc (((B0.set 0 _).set 1 _).cell 2) (fun _ _ => by simp) _
/-- An exact number. -/
def IsQ (w : World) (v : Value) (x : Rat) : Prop := ∃ a b, v = .agg #[.bool (decide (x < 0)), a, b] ∧ IsNat w a x.num.natAbs ∧ IsNat w b x.den
theorem IsQ.ext {a b : World} {v : Value} {x : Rat} [e : Ext a b] (h : IsQ a v x) : IsQ b v x := by
  obtain ⟨p, q, e1, e2, e3⟩ := h; exact ⟨p, q, e1, e2.ext, e3.ext⟩
theorem IsQ.up {a b : World} {v : Value} {x : Rat} (h : IsQ a v x) (e : Ext a b := by infer_instance) : IsQ b v x := h.ext
theorem IsQ.q3 {w : World} {v : Value} {x : Rat} {g : Nat} {T : TypeId} {b : Bool} {A B : Option Addr} {k c k' c' : Nat} (h : IsQ w v x) (B0 : Blk w g T [.bool b, .slice A k c, .slice B k' c']) (y0 : Bool) (y1 y2 : Value) :
    IsQ (((w.setCell ⟨g, 0, none⟩ (.bool y0)).setCell ⟨g, 1, none⟩ y1).setCell ⟨g, 2, none⟩ y2) v x := by
  obtain ⟨p, q, e1, e2, e3⟩ := h; exact ⟨p, q, e1, e2.q3 B0 _ _ _, e3.q3 B0 _ _ _⟩
def RetV' (w : World) (v : Value) (e : Ending) (w' : World) : Prop := e = .returned v ∧ Step w w'
def RetQ (w : World) (x : Rat) (e : Ending) (w' : World) : Prop := ∃ v, e = .returned v ∧ IsQ w' v x ∧ Step w w'

set_option maxHeartbeats 4000000 in
theorem q_make (a b : Value) (neg : Bool) (n d : Nat) (w : World) (ha : IsNat w a n) (hb : IsNat w b d) (hd : 0 < d) (hn : bl n ≤ 549755813888) (hdb : bl d ≤ 549755813888) (x : Rat) (hx : mkQ neg n d = x) :
    Calls Tryd.prog 56 #[.bool neg, a, b] w (RetQ w x) := by
  have hu := Tryd.underlying88
  have ha0 := ha
  have hb0 := hb
  obtain ⟨A, c, l, rfl, hc, hcm, hi, hr, ht, hv⟩ := ha
  obtain ⟨A', c', l', rfl, hc', hcm', hi', hr', ht', hv'⟩ := hb
  by_cases e : l.length = 0
  · have h0 : n = 0 := by
      have : l = [] := List.length_eq_zero_iff.1 e
      subst this
      have : val 1073741824 [] = 0 := rfl
      omega
    subst h0
    rw [mkQ_zero] at hx
    subst hx
    rw [e] at ha0 ⊢
    clear hc hi hr ht hv hi' hr' ht' hv'
    go_enter Tryd.func56, Tryd.ntmps56
    go_wp2
    refine bodyPost_ret (results_cell_row rfl _ _ w.heap.size 88 #[.bool false, .slice none 0 0, .slice (some ⟨w.heap.size + 1, 0, none⟩) 1 1] (0, 0) _ rfl ?hg hu rfl rfl) rfl ?_
    case hg => repeat (first | exact heap_alloc_new _ _ | exact heap_alloc2_new _ _ _ | rw [heap_drew] | (refine (heap_alloc_old _ _ (by simp <;> omega)).trans ?_))
    refine ⟨_, rfl, ⟨_, _, rfl, ?_, ?_⟩, Step.of⟩
    · exact (IsNat.zero _)
    · have h := IsNat.one (w.alloc (.cells #[.bool false, .slice none 0 0, .slice (some ⟨w.heap.size + 1, 0, none⟩) 1 1] 88)) 3
      have e : (w.alloc (.cells #[.bool false, .slice none 0 0, .slice (some ⟨w.heap.size + 1, 0, none⟩) 1 1] 88)).heap.size = w.heap.size + 1 := by simp
      rw [e] at h
      exact h
  · have hn0 : 0 < n := by
      refine Nat.pos_of_ne_zero fun h0 => e ?_
      have := IsNat.len hr ht hv
      rw [h0, bl_zero] at this
      omega
    have hgp : 0 < Nat.gcd n d := Nat.gcd_pos_of_pos_left _ hn0
    have hgb : bl (Nat.gcd n d) ≤ 549755813888 := Nat.le_trans (bl_mono (Nat.gcd_le_left d hn0)) hn
    have x1 := mkQ_num neg (n := n) hd
    have x2 := mkQ_den neg (n := n) hd
    have x3 := mkQ_neg (neg := neg) hn0 hd
    rw [hx] at x1 x2 x3
    generalize l.length = k at *
    generalize l'.length = k' at *
    have f0 : ((k : Int) == 0) = false := beq_f (by omega)
    clear hx hc hi hr ht hv hc' hi' hr' ht' hv'
    by_cases g1 : Nat.gcd n d = 1
    · have hcm : cmpN (Nat.gcd n d) 1 = 0 := by unfold cmpN; rw [g1, if_neg (by omega), if_neg (by omega)]
      rw [g1, Nat.div_one] at x1 x2
      have X1 := Lib.hid x1; clear x1
      have X2 := Lib.hid x2; clear x2
      have X3 := Lib.hid x3; clear x3
      clear g1
      go_enter Tryd.func56, Tryd.ntmps56
      go_wp2_with (first | (go_at_call 67; refine use (nat_gcd _ _ n d _ ha0.up hb0.up hn hdb) ?_; rintro e w1 ⟨v1, rfl, N1, hs1⟩; have B0 := (Blk.new w [.bool false, .slice none 0 0, .slice none 0 0] 88).ext (b := w1)) | (go_at_call 68; refine use (nat_cmp _ _ (Nat.gcd n d) 1 _ N1.up (IsNat.one _ _) (by omega) (by decide)) ?_; rw [hcm]; rintro e w2 ⟨rfl, hs2⟩; have B0 := B0.ext (b := w2); have c0 := B0.cell 0; have c1 := B0.cell 1; have c2 := B0.cell 2; have z0 := B0.frozen 0; have z1 := B0.frozen 1; have z2 := B0.frozen 2))
      refine bodyPost_ret (results_cell_row rfl _ _ w.heap.size 88 #[.bool neg, .slice A k c, .slice A' k' c'] (0, 0) _ rfl ?hg hu rfl rfl) rfl ?_
      case hg => exact ((B0.set 0 _).set 1 _).set 2 _
      exact ⟨_, rfl, ⟨_, _, by rw [X3.out], by rw [X1.out]; exact ha0.up, by rw [X2.out]; exact hb0.up⟩, Step.of⟩
    · have hcm : cmpN (Nat.gcd n d) 1 = 1 := by unfold cmpN; rw [if_neg (by omega), if_pos (by omega)]
      have X1 := Lib.hid x1; clear x1
      have X2 := Lib.hid x2; clear x2
      have X3 := Lib.hid x3; clear x3
      clear g1
      go_enter Tryd.func56, Tryd.ntmps56
      go_upto_region 6 with (first | (go_at_call 67; refine use (nat_gcd _ _ n d _ ha0.up hb0.up hn hdb) ?_; rintro e w1 ⟨v1, rfl, N1, hs1⟩; have B0 := (Blk.new w [.bool false, .slice none 0 0, .slice none 0 0] 88).ext (b := w1)) | (go_at_call 68; refine use (nat_cmp _ _ (Nat.gcd n d) 1 _ N1.up (IsNat.one _ _) (by omega) (by decide)) ?_; rw [hcm]; rintro e w2 ⟨rfl, hs2⟩) | (go_at_call 69; refine use (nat_divmod _ _ n (Nat.gcd n d) _ ha0.up N1.up hgp hn hgb) ?_; rintro e w3 ⟨u3, v3, rfl, N3, M3, hs3⟩; obtain ⟨A3, k3, c3, rfl⟩ := N3.slice))
      go_wp2_with (first | (go_at_call 69; refine use (nat_divmod _ _ d (Nat.gcd n d) _ hb0.up N1.up hgp hdb hgb) ?_; rintro e w4 ⟨u4, v4, rfl, N4, M4, hs4⟩; obtain ⟨A4, k4, c4, rfl⟩ := N4.slice; have B0 := B0.ext (b := w4); have c0 := B0.cell 0; have c1 := B0.cell 1; have c2 := B0.cell 2; have z0 := B0.frozen 0; have z1 := B0.frozen 1; have z2 := B0.frozen 2))
      refine bodyPost_ret (results_cell_row rfl _ _ w.heap.size 88 #[.bool neg, .slice A3 k3 c3, .slice A4 k4 c4] (0, 0) _ rfl ?hg hu rfl rfl) rfl ?_
      case hg => exact ((B0.set 0 _).set 1 _).set 2 _
      exact ⟨_, rfl, ⟨_, _, by rw [X3.out], by rw [X1.out]; exact N3.up.q3 B0 _ _ _, by rw [X2.out]; exact N4.q3 B0 _ _ _⟩, Step.of⟩
theorem q_sign (v : Value) (x : Rat) (w : World) (hv : IsQ w v x) (r : Int) (hr : (if x < 0 then -1 else if x = 0 then 0 else 1) = r) : Calls Tryd.prog 71 #[v] w (RetV' w (.int .i64 r)) := by
  have hu := Tryd.underlying88
  obtain ⟨a, b, rfl, ha, hb⟩ := hv
  obtain ⟨A, c, l, rfl, hc, hcm, hi, hrg, ht, hvl⟩ := ha
  obtain ⟨A', k', c', rfl⟩ := hb.slice
  have HR := Lib.hid hr; clear hr hb
  by_cases e : l.length = 0
  · have h0 : x.num.natAbs = 0 := by
      have : l = [] := List.length_eq_zero_iff.1 e
      subst this
      have : val 1073741824 [] = 0 := rfl
      omega
    have hx : x = 0 := by
      have : x.num = 0 := Int.natAbs_eq_zero.1 h0
      exact Rat.num_eq_zero.1 this
    subst hx
    have hb0 : decide ((0 : Rat) < 0) = false := by decide
    rw [e, hb0]
    clear hc hi hrg ht hvl
    go_enter Tryd.func71, Tryd.ntmps71
    go_wp2
    go_ret
    refine ⟨congrArg (fun z => Ending.returned (Value.int .i64 z)) ?_, Step.of⟩
    rw [← HR.out]; decide
  · have hn0 : x.num.natAbs ≠ 0 := by
      intro h0
      have := IsNat.len hrg ht hvl
      rw [h0, bl_zero] at this
      omega
    have hx : x ≠ 0 := by
      rintro rfl; exact hn0 rfl
    generalize l.length = k at *
    have f0 : ((k : Int) == 0) = false := beq_f (by omega)
    clear hc hi hrg ht hvl
    by_cases hs : x < 0
    · rw [decide_eq_true hs]
      rw [if_pos hs] at HR
      have HR := HR.out
      subst HR
      go_enter Tryd.func71, Tryd.ntmps71
      go_wp2
      go_ret
      exact ⟨rfl, Step.of⟩
    · rw [decide_eq_false hs]
      rw [if_neg hs, if_neg hx] at HR
      have HR := HR.out
      subst HR
      go_enter Tryd.func71, Tryd.ntmps71
      go_wp2
      go_ret
      exact ⟨rfl, Step.of⟩
end Tt
