/- Floats by their bits: the document's scaled, floor, away. -/
import Derived.Test.YtjjnhmcoodahgaaDoorFlV
import Derived.Test.YtjjnhmcoodahgaaDoorBsQ
namespace Tt
open Go Go.RowKit Go.Proofs
set_option linter.unusedSimpArgs false
set_option linter.unusedVariables false
set_option maxRecDepth 100000

/-- Above and below of a size by 2 to the e. -/
def scN (x : Rat) (e : Int) : Nat := x.num.natAbs * 2 ^ (-e).toNat
def scD (x : Rat) (e : Int) : Nat := x.den * 2 ^ e.toNat
theorem scD_pos (x : Rat) (e : Int) : 0 < scD x e := Nat.mul_pos x.den_pos (Nat.two_pow_pos _)
theorem bl_two (k : Nat) : bl (2 ^ k) = k + 1 := bl_eq (Nat.le_refl _) (by rw [Nat.pow_succ]; have := Nat.two_pow_pos k; omega)
theorem bl_shift (n k : Nat) : bl (n * 2 ^ k) ≤ bl n + k := by
  refine bl_le.2 ?_
  rw [Nat.pow_add]
  exact Nat.mul_lt_mul_of_pos_right (lt_bl n) (Nat.two_pow_pos k)
set_option maxHeartbeats 4000000 in
theorem rscaled_calls (v : Value) (x : Rat) (e : Int) (w : World) (hv : IsQ w v x) (hq1 : bl x.num.natAbs ≤ 274877906944) (hq2 : bl x.den ≤ 274877906944) (he1 : -274877906944 ≤ e) (he2 : e ≤ 274877906944) :
    Calls Tryd.prog 74 #[v, .int .i64 e] w (RetNat2 w (scN x e) (scD x e)) := by
  have hu := Tryd.underlying88
  obtain ⟨a, b, rfl, ha, hb⟩ := hv
  obtain ⟨A, k, c, rfl⟩ := ha.slice
  obtain ⟨A', k', c', rfl⟩ := hb.slice
  generalize decide (x < 0) = s at *
  by_cases h : 0 ≤ e
  · have hn : scN x e = x.num.natAbs := by unfold scN; rw [show (-e).toNat = 0 by omega]; simp
    rw [hn]
    unfold scD
    go_enter Tryd.func74, Tryd.ntmps74
    go_upto_region 2 with (fail)
    go_region_held3 (fun w' => w'.cell? ⟨w.heap.size, 0, none⟩ = some (.bool s) ∧ w'.cell? ⟨w.heap.size, 1, none⟩ = some (.slice A k c) ∧ w'.cell? ⟨w.heap.size, 2, none⟩ = some (.slice A' k' c')) (first | go_keep | exact ⟨cell_keep (by simp [*, go_sem]), cell_keep (by simp [*, go_sem]), cell_keep (by simp [*, go_sem])⟩) (first | (go_at_call 57; refine use (nat_shl _ x.den e _ hb.up (by omega) h (by omega)) ?_; rintro e1 w1 ⟨v1, rfl, N1, hs1⟩))
    go_wp2
    go_ret2
    exact ⟨_, _, rfl, ha.up, N1.up, Step.of⟩
  · have hn : scD x e = x.den := by unfold scD; rw [show e.toNat = 0 by omega]; simp
    rw [hn]
    unfold scN
    have hwe : IntKind.i64.wrap (-e) = -e := by simp [IntKind.wrap, IntKind.bits, IntKind.signed]; omega
    go_enter Tryd.func74, Tryd.ntmps74
    go_upto_region 3 with (fail)
    go_region_held3 (fun w' => w'.cell? ⟨w.heap.size, 0, none⟩ = some (.bool s) ∧ w'.cell? ⟨w.heap.size, 1, none⟩ = some (.slice A k c) ∧ w'.cell? ⟨w.heap.size, 2, none⟩ = some (.slice A' k' c')) (first | go_keep | exact ⟨cell_keep (by simp [*, go_sem]), cell_keep (by simp [*, go_sem]), cell_keep (by simp [*, go_sem])⟩) (first | (go_at_call 57; (try simp only [hwe]); refine use (nat_shl _ x.num.natAbs (-e) _ ha.up (by omega) (by omega) (by omega)) ?_; rintro e1 w1 ⟨v1, rfl, N1, hs1⟩))
    go_wp2
    go_ret2
    exact ⟨_, _, rfl, N1.up, hb.up, Step.of⟩
set_option maxHeartbeats 4000000 in
theorem rfloor_calls (z v : Value) (P L H F : Int) (hz : z = .agg #[.int .i64 P, .int .i64 L, .int .i64 H, .int .i64 F]) (x : Rat) (e : Int) (w : World) (hv : IsQ w v x) (hq1 : bl x.num.natAbs ≤ 268435456) (hq2 : bl x.den ≤ 268435456) (he1 : -268435456 ≤ e) (he2 : e ≤ 268435456) :
    Calls Tryd.prog 73 #[z, v, .int .i64 e] w (RetNat2 w (scN x e / scD x e) (scN x e % scD x e)) := by
  subst hz
  have hu := Tryd.underlying88
  have hus := Tryd.underlying31
  have hv0 := hv
  obtain ⟨a, b, rfl, ha, hb⟩ := hv
  obtain ⟨A, k, c, rfl⟩ := ha.slice
  obtain ⟨A', k', c', rfl⟩ := hb.slice
  have b1 : bl (scN x e) ≤ 549755813888 := by have := bl_shift x.num.natAbs (-e).toNat; unfold scN; omega
  have b2 : bl (scD x e) ≤ 549755813888 := by have := bl_shift x.den e.toNat; unfold scD; omega
  have HP := Lib.hid (scD_pos x e)
  generalize hN : scN x e = N at *
  generalize hD : scD x e = D at *
  have HN := Lib.hid hN; clear hN
  have HD := Lib.hid hD; clear hD
  generalize hs : decide (x < 0) = s at *
  clear hs
  go_enter Tryd.func73, Tryd.ntmps73
  go_wp2_with (first | (go_at_call 74; refine use (rscaled_calls _ x e _ hv0.up (by omega) (by omega) (by omega) (by omega)) ?_; rw [HN.out, HD.out]; rintro e1 w1 ⟨u1, v1, rfl, N1, M1, hs1⟩) | (go_at_call 69; refine use (nat_divmod _ _ N D _ N1.up M1.up HP.out b1 b2) ?_; rintro e2 w2 ⟨u2, v2, rfl, N2, M2, hs2⟩))
  go_ret2
  exact ⟨_, _, rfl, N2.up, M2.up, Step.of⟩
/-- Is the neighbour that is farther from nought taken? -/
def awayB (way : Int) (neg odd : Bool) (half : Int) : Bool :=
  if way = 1 then neg else if way = 2 then !neg else if way = 4 then true else if way = 5 then decide (0 ≤ half) else if way = 6 then (decide (0 < half) || (decide (half = 0) && odd)) else false
theorem raway_calls (way : Int) (neg odd : Bool) (half : Int) (w : World) (r : Bool) (hr : awayB way neg odd half = r) : Calls Tryd.prog 75 #[.int .i64 way, .bool neg, .bool odd, .int .i64 half] w (RetX w (.bool r)) := by
  have HR := Lib.hid hr; clear hr
  by_cases h1 : way = 1
  · subst h1
    go_enter Tryd.func75, Tryd.ntmps75
    go_wp2
    go_ret
    exact ⟨congrArg (fun z => Ending.returned (Value.bool z)) (by rw [← HR.out]; rfl), rfl⟩
  by_cases h2 : way = 2
  · subst h2
    go_enter Tryd.func75, Tryd.ntmps75
    go_wp2
    go_ret
    exact ⟨congrArg (fun z => Ending.returned (Value.bool z)) (by rw [← HR.out]; rfl), rfl⟩
  by_cases h4 : way = 4
  · subst h4
    go_enter Tryd.func75, Tryd.ntmps75
    go_wp2
    go_ret
    exact ⟨congrArg (fun z => Ending.returned (Value.bool z)) (by rw [← HR.out]; rfl), rfl⟩
  by_cases h5 : way = 5
  · subst h5
    go_enter Tryd.func75, Tryd.ntmps75
    go_wp2
    go_ret
    exact ⟨congrArg (fun z => Ending.returned (Value.bool z)) (by rw [← HR.out]; rfl), rfl⟩
  by_cases h6 : way = 6
  · subst h6
    rcases (by omega : 0 < half ∨ half = 0 ∨ half < 0) with h | h | h
    · go_enter Tryd.func75, Tryd.ntmps75
      go_wp2
      go_ret
      exact ⟨congrArg (fun z => Ending.returned (Value.bool z)) (by rw [← HR.out]; unfold awayB; simp; omega), rfl⟩
    · subst h
      go_enter Tryd.func75, Tryd.ntmps75
      go_wp2
      go_ret
      exact ⟨congrArg (fun z => Ending.returned (Value.bool z)) (by rw [← HR.out]; unfold awayB; simp), rfl⟩
    · have f : (half == 0) = false := beq_f (by omega)
      go_enter Tryd.func75, Tryd.ntmps75
      go_wp2
      go_ret
      exact ⟨congrArg (fun z => Ending.returned (Value.bool z)) (by rw [← HR.out]; unfold awayB; simp; omega), rfl⟩
  · have f1 : (way == 1) = false := beq_f h1
    have f2 : (way == 2) = false := beq_f h2
    have f4 : (way == 4) = false := beq_f h4
    have f5 : (way == 5) = false := beq_f h5
    have f6 : (way == 6) = false := beq_f h6
    go_enter Tryd.func75, Tryd.ntmps75
    go_wp2
    go_ret
    exact ⟨congrArg (fun z => Ending.returned (Value.bool z)) (by rw [← HR.out]; unfold awayB; rw [if_neg h1, if_neg h2, if_neg h4, if_neg h5, if_neg h6]), rfl⟩
end Tt
