/- Floats by their bits: what an exact number is rounded to, as the document says, of 64 bits. -/
import Derived.Test.YtjjnhmcoodahgaaDoorFmD
namespace Tt
open Go Go.RowKit Go.Proofs
set_option linter.unusedSimpArgs false
set_option linter.unusedVariables false
set_option maxRecDepth 100000
attribute [local go_sem] max2_int min2_int max_two min_two
theorem IsNat.len0 {w : World} {A : Option Addr} {k c n : Nat} (h : IsNat w (.slice A k c) n) : k = 0 ↔ n = 0 := by
  obtain ⟨A', c', l, e1, _, _, _, hr, ht, hv⟩ := h
  have hk : k = l.length := by injection e1
  constructor
  · intro h0
    have : l = [] := List.length_eq_zero_iff.1 (by omega)
    subst this
    have : val 1073741824 [] = 0 := rfl
    omega
  · rintro rfl
    have := IsNat.len hr ht hv
    rw [bl_zero] at this
    omega
theorem scN_n (x : Rat) (e : Int) : scN x e = scNn x.num.natAbs e := rfl
theorem scD_n (x : Rat) (e : Int) : scD x e = scNn x.den (-e) := by unfold scD scNn; rw [Int.neg_neg]
set_option maxHeartbeats 16000000 in
theorem rrounded_calls (v : Value) (x : Rat) (way : Int) (w : World) (hv : IsQ w v x) (hq1 : bl x.num.natAbs ≤ 134217728) (hq2 : bl x.den ≤ 134217728) (r : Int) (o : Bool) (hr : rndW (decide (x < 0)) way x.num.natAbs x.den = (r, o)) :
    Calls Tryd.prog 58 #[wideV, v, .int .i64 way] w (RetV w (.tuple #[.int .u64 r, .bool o])) := by
  have hu := Tryd.underlying88
  have hus := Tryd.underlying31
  have hv0 := hv
  obtain ⟨a, b, rfl, ha, hb⟩ := hv
  obtain ⟨A, k, c, rfl⟩ := ha.slice
  obtain ⟨A', k', c', rfl⟩ := hb.slice
  by_cases hx : x = 0
  · have hsg := fun w h => q_sign (.agg #[.bool (decide (x < 0)), .slice A k c, .slice A' k' c']) x w h 0 (by subst hx; decide)
    have hr0 : r = 0 ∧ o = false := by
      subst hx
      have : rndW (decide ((0 : Rat) < 0)) way (0 : Rat).num.natAbs (0 : Rat).den = (0, false) := rfl
      rw [this] at hr
      exact ⟨(congrArg Prod.fst hr).symm, (congrArg Prod.snd hr).symm⟩
    obtain ⟨rfl, rfl⟩ := hr0
    clear hr hx
    unfold wideV
    generalize decide (x < 0) = s at *
    go_enter Tryd.func58, Tryd.ntmps58
    go_wp2_with (first | (go_at_call 71; refine use (hsg _ hv0.up) ?_; rintro e1 w1 ⟨rfl, hs1⟩))
    go_ret2
    exact ⟨rfl, Step.of⟩
  obtain ⟨sg, hsg1, hsg0⟩ : ∃ sg, (if x < 0 then -1 else if x = 0 then 0 else 1) = sg ∧ sg ≠ (0 : Int) := by
    refine ⟨_, rfl, ?_⟩
    rw [if_neg hx]
    split <;> omega
  have hsg := fun w h => q_sign (.agg #[.bool (decide (x < 0)), .slice A k c, .slice A' k' c']) x w h sg hsg1
  have fsg : (sg == 0) = false := beq_f hsg0
  have hn0 : x.num.natAbs ≠ 0 := fun h => hx (Rat.num_eq_zero.1 (Int.natAbs_eq_zero.1 h))
  have hD := x.den_pos
  unfold rndW at hr
  rw [if_neg hn0] at hr
  have hfl := fun e h1 h2 w hv => rfloor_calls wideV (.agg #[.bool (decide (x < 0)), .slice A k c, .slice A' k' c']) 53 (-1074) 971 52 rfl x e w hv (by omega) (by omega) h1 h2
  have hsc := fun e h1 h2 w hv => rscaled_calls (.agg #[.bool (decide (x < 0)), .slice A k c, .slice A' k' c']) x e w hv (by omega) (by omega) h1 h2
  have ebl0 := e0_bl (P := 53) (L := -1074) (N := x.num.natAbs) hD
  have ebl1 := e0_bl' (P := 53) (L := -1074) (N := x.num.natAbs) hD
  have eblf := e1_bl (P := 53) (L := -1074) (N := x.num.natAbs) hD
  simp only [scD_n, scN_n] at hfl hsc
  have he0 : e0F 53 (-1074) x.num.natAbs x.den = mx ((bl x.num.natAbs : Int) - bl x.den - 53) (-1074) := rfl
  have he1 : e1F 53 (-1074) x.num.natAbs x.den = if (53 : Int) < bl (scNn x.num.natAbs (e0F 53 (-1074) x.num.natAbs x.den) / scNn x.den (-(e0F 53 (-1074) x.num.natAbs x.den))) then e0F 53 (-1074) x.num.natAbs x.den + 1 else e0F 53 (-1074) x.num.natAbs x.den := rfl
  have hbits : ∀ w v (B : Int), (v = .slice A k c ∧ IsNat w v x.num.natAbs ∧ B = bl x.num.natAbs) ∨ (v = .slice A' k' c' ∧ IsNat w v x.den ∧ B = bl x.den) → Calls Tryd.prog 72 #[v] w (RetX' w (.int .i64 B)) := by
    rintro w v B (⟨rfl, h, rfl⟩ | ⟨rfl, h, rfl⟩)
    · exact nat_bits _ _ w h (by omega) _ rfl
    · exact nat_bits _ _ w h (by omega) _ rfl
  obtain ⟨B1, hB1⟩ : ∃ B : Int, (bl x.num.natAbs : Int) = B := ⟨_, rfl⟩
  obtain ⟨B2, hB2⟩ : ∃ B : Int, (bl x.den : Int) = B := ⟨_, rfl⟩
  have hB1r : 0 ≤ B1 ∧ B1 ≤ 134217728 := by omega
  have hB2r : 0 ≤ B2 ∧ B2 ≤ 134217728 := by omega
  rw [hB1, hB2] at hbits
  rw [hB1, hB2] at he0
  have w1 : IntKind.i64.wrap (B1 - B2) = B1 - B2 := by simp [IntKind.wrap, IntKind.bits, IntKind.signed]; omega
  have w2 : IntKind.i64.wrap (B1 - B2 - 53) = B1 - B2 - 53 := by simp [IntKind.wrap, IntKind.bits, IntKind.signed]; omega
  generalize e0F 53 (-1074) x.num.natAbs x.den = e0 at *
  have he0r : -1074 ≤ e0 ∧ e0 ≤ 134217728 := by rw [he0]; unfold mx; split <;> omega
  clear hB1 hB2 hx hsg1 hsg0 hn0 hD
  have HQ1 := Lib.hid hq1; have HQ2 := Lib.hid hq2; clear hq1 hq2
  have HE0 := Lib.hid he0; clear he0
  have HE1 := Lib.hid he1; clear he1
  have HR := Lib.hid hr; clear hr
  have HBITS := Lib.hid hbits; clear hbits
  have HFL := Lib.hid hfl; clear hfl
  have HSC := Lib.hid hsc; clear hsc
  have EB0 := Lib.hid ebl0; clear ebl0
  have EB1 := Lib.hid ebl1; clear ebl1
  have EBF := Lib.hid eblf; clear eblf
  have HSG := Lib.hid hsg; clear hsg
  have hla := rlaidW_calls
  have HLA := Lib.hid hla; clear hla
  unfold wideV at *
  generalize decide (x < 0) = s at *
  go_enter Tryd.func58, Tryd.ntmps58
  go_upto_region 3 with (first | (go_at_call 71; refine use (HSG.out _ hv0.up) ?_; rintro e1 w1 ⟨rfl, hs1⟩; have d0 : w1.cell? ⟨w.heap.size, 0, none⟩ = some (.int .i64 53) := cell_keep (h := hs1) (by simp [go_sem]); have d1 : w1.cell? ⟨w.heap.size, 1, none⟩ = some (.int .i64 (-1074)) := cell_keep (h := hs1) (by simp [go_sem]); have d2 : w1.cell? ⟨w.heap.size, 2, none⟩ = some (.int .i64 971) := cell_keep (h := hs1) (by simp [go_sem]); have d3 : w1.cell? ⟨w.heap.size, 3, none⟩ = some (.int .i64 52) := cell_keep (h := hs1) (by simp [go_sem]); have f0 : w1.cell? ⟨w.heap.size + 1, 0, none⟩ = some (.bool s) := cell_keep (h := hs1) (by simp [go_sem]); have f1 : w1.cell? ⟨w.heap.size + 1, 1, none⟩ = some (.slice A k c) := cell_keep (h := hs1) (by simp [go_sem]); have f2 : w1.cell? ⟨w.heap.size + 1, 2, none⟩ = some ((.slice A' k' c')) := cell_keep (h := hs1) (by simp [go_sem])))
  go_region_held3 (fun w' => w'.cell? ⟨w.heap.size, 0, none⟩ = some (.int .i64 53) ∧ w'.cell? ⟨w.heap.size, 1, none⟩ = some (.int .i64 (-1074)) ∧ w'.cell? ⟨w.heap.size, 2, none⟩ = some (.int .i64 971) ∧ w'.cell? ⟨w.heap.size, 3, none⟩ = some (.int .i64 52) ∧ w'.cell? ⟨w.heap.size + 1, 0, none⟩ = some (.bool s) ∧ w'.cell? ⟨w.heap.size + 1, 1, none⟩ = some (.slice A k c) ∧ w'.cell? ⟨w.heap.size + 1, 2, none⟩ = some (.slice A' k' c')) (first | go_keep | exact ⟨cell_keep (by simp [*, go_sem]), cell_keep (by simp [*, go_sem]), cell_keep (by simp [*, go_sem]), cell_keep (by simp [*, go_sem]), cell_keep (by simp [*, go_sem]), cell_keep (by simp [*, go_sem]), cell_keep (by simp [*, go_sem])⟩) (first | (go_at_call 72; refine use (HBITS.out _ _ _ (by first | exact .inl ⟨rfl, ha.up, rfl⟩ | exact .inr ⟨rfl, hb.up, rfl⟩)) ?_; rintro e1 w1 ⟨rfl, rfl⟩))
  rw [← HE0.out]
  go_wp2_with (first | (go_at_call 73; refine use (HFL.out e0 (by omega) (by omega) _ hv0.up) ?_; rintro e2 w2 ⟨u2, v2, rfl, N2, M2, hs2⟩; have d0 : w2.cell? ⟨w.heap.size, 0, none⟩ = some (.int .i64 53) := cell_keep (h := hs2) (by simp [*, go_sem]); have d1 : w2.cell? ⟨w.heap.size, 1, none⟩ = some (.int .i64 (-1074)) := cell_keep (h := hs2) (by simp [*, go_sem]); have d2 : w2.cell? ⟨w.heap.size, 2, none⟩ = some (.int .i64 971) := cell_keep (h := hs2) (by simp [*, go_sem]); have d3 : w2.cell? ⟨w.heap.size, 3, none⟩ = some (.int .i64 52) := cell_keep (h := hs2) (by simp [*, go_sem]); have f0 : w2.cell? ⟨w.heap.size + 1, 0, none⟩ = some (.bool s) := cell_keep (h := hs2) (by simp [*, go_sem]); have f1 : w2.cell? ⟨w.heap.size + 1, 1, none⟩ = some (.slice A k c) := cell_keep (h := hs2) (by simp [*, go_sem]); have f2 : w2.cell? ⟨w.heap.size + 1, 2, none⟩ = some ((.slice A' k' c')) := cell_keep (h := hs2) (by simp [*, go_sem])))
  go_loopw [8, 9, 10] (fun v8 v9 v10 wr => ∃ (e : Int), v8 = .int .i64 e ∧ (e = e0 ∨ (e = e0 + 1 ∧ (53 : Int) < bl (scNn x.num.natAbs e0 / scNn x.den (-e0)))) ∧ IsNat wr v9 (scNn x.num.natAbs e / scNn x.den (-e)) ∧ IsNat wr v10 (scNn x.num.natAbs e % scNn x.den (-e)) ∧ (wr.cell? ⟨w.heap.size, 0, none⟩ = some (.int .i64 53) ∧ wr.cell? ⟨w.heap.size, 1, none⟩ = some (.int .i64 (-1074)) ∧ wr.cell? ⟨w.heap.size, 2, none⟩ = some (.int .i64 971) ∧ wr.cell? ⟨w.heap.size, 3, none⟩ = some (.int .i64 52) ∧ wr.cell? ⟨w.heap.size + 1, 0, none⟩ = some (.bool s) ∧ wr.cell? ⟨w.heap.size + 1, 1, none⟩ = some (.slice A k c) ∧ wr.cell? ⟨w.heap.size + 1, 2, none⟩ = some (.slice A' k' c')) ∧ Ext w wr) (fun v _ _ _ => (e0 + 1 - intOf v).toNat)
  case atStart => exact ⟨e0, rfl, .inl rfl, N2, M2, ⟨d0, d1, d2, d3, f0, f1, f2⟩, inferInstance⟩
  case round =>
    obtain ⟨e, rfl, he, N3, M3, ⟨d0, d1, d2, d3, f0, f1, f2⟩, hE⟩ := hrel
    have hbe : bl (scNn x.num.natAbs e / scNn x.den (-e)) ≤ 54 := by
      rcases he with rfl | ⟨rfl, _⟩
      · exact EB0.out
      · have := EB1.out; omega
    have her : -1074 ≤ e ∧ e ≤ 134217729 := by omega
    by_cases h53 : bl (scNn x.num.natAbs e / scNn x.den (-e)) ≤ 53
    · have hee : e1F 53 (-1074) x.num.natAbs x.den = e := by
        rw [HE1.out]
        rcases he with rfl | ⟨rfl, h⟩
        · rw [if_neg (by omega)]
        · rw [if_pos h]
      have hR := HR.out
      rw [hee] at hR
      have hgb := grid_bl (neg := s) (way := way) h53
      obtain ⟨B3, hB3⟩ : ∃ B : Int, (bl (scNn x.num.natAbs e / scNn x.den (-e)) : Int) = B := ⟨_, rfl⟩
      have hB3r : B3 ≤ 53 := by omega
      have hbt := fun w h => nat_bits u9 (scNn x.num.natAbs e / scNn x.den (-e)) w h (by omega) B3 hB3
      have hev := fun w h => nat_even u9 (scNn x.num.natAbs e / scNn x.den (-e)) w h (by omega) _ rfl
      have hsc := HSC.out e (by omega) (by omega)
      have hg : gridF s way x.num.natAbs x.den e = if 0 < scNn x.num.natAbs e % scNn x.den (-e) ∧ awayB way s (!decide (scNn x.num.natAbs e / scNn x.den (-e) % 2 = 0)) (cmpN (scNn x.num.natAbs e % scNn x.den (-e) * 2) (scNn x.den (-e))) = true then scNn x.num.natAbs e / scNn x.den (-e) + 1 else scNn x.num.natAbs e / scNn x.den (-e) := rfl
      have hbr : bl (scNn x.num.natAbs e % scNn x.den (-e)) ≤ 549755813888 := by
        refine Nat.le_trans (bl_mono (Nat.mod_le _ _)) ?_
        have h1 := bl_shift x.num.natAbs (-e).toNat
        have h2 := HQ1.out
        unfold scNn
        omega
      have hbd : bl (scNn x.den (-e)) ≤ 549755813888 := by
        have h1 := bl_shift x.den (- -e).toNat
        have h2 := HQ2.out
        unfold scNn
        omega
      have hbr2 : bl (scNn x.num.natAbs e % scNn x.den (-e) * 2) ≤ 1099511627776 := by
        have := bl_shift (scNn x.num.natAbs e % scNn x.den (-e)) 1
        rw [Nat.pow_one] at this
        omega
      generalize scNn x.num.natAbs e / scNn x.den (-e) = Q at *
      generalize scNn x.num.natAbs e % scNn x.den (-e) = R at *
      generalize scNn x.num.natAbs e = N at *
      generalize scNn x.den (-e) = D at *
      have HBT := Lib.hid hbt
      have HEV := Lib.hid hev
      have HS2 := Lib.hid hsc
      clear hbt hev hsc hbe he hB3 hee
      obtain ⟨A5, k5, c5, rfl⟩ := M3.slice
      have hl0 := M3.len0
      go_upto_region 5 with (fail)
      go_region_held3 (fun w' => w'.cell? ⟨w.heap.size, 0, none⟩ = some (.int .i64 53) ∧ w'.cell? ⟨w.heap.size, 1, none⟩ = some (.int .i64 (-1074)) ∧ w'.cell? ⟨w.heap.size, 2, none⟩ = some (.int .i64 971) ∧ w'.cell? ⟨w.heap.size, 3, none⟩ = some (.int .i64 52) ∧ w'.cell? ⟨w.heap.size + 1, 0, none⟩ = some (.bool s) ∧ w'.cell? ⟨w.heap.size + 1, 1, none⟩ = some (.slice A k c) ∧ w'.cell? ⟨w.heap.size + 1, 2, none⟩ = some (.slice A' k' c')) (first | go_keep | exact ⟨cell_keep (by simp [*, go_sem]), cell_keep (by simp [*, go_sem]), cell_keep (by simp [*, go_sem]), cell_keep (by simp [*, go_sem]), cell_keep (by simp [*, go_sem]), cell_keep (by simp [*, go_sem]), cell_keep (by simp [*, go_sem])⟩) (first | (go_at_call 72; refine use (HBT.out _ N3.up) ?_; rintro e1 w3 ⟨rfl, rfl⟩))
      go_upto_region 9 with (first | (go_at_call 74; refine use (HS2.out _ hv0.up) ?_; rintro e2 w3 ⟨u3, v3, rfl, N4, M4, hs3⟩; have d0 : w3.cell? ⟨w.heap.size, 0, none⟩ = some (.int .i64 53) := cell_keep (h := hs3) (by simp [*, go_sem]); have d1 : w3.cell? ⟨w.heap.size, 1, none⟩ = some (.int .i64 (-1074)) := cell_keep (h := hs3) (by simp [*, go_sem]); have d2 : w3.cell? ⟨w.heap.size, 2, none⟩ = some (.int .i64 971) := cell_keep (h := hs3) (by simp [*, go_sem]); have d3 : w3.cell? ⟨w.heap.size, 3, none⟩ = some (.int .i64 52) := cell_keep (h := hs3) (by simp [*, go_sem]); have f0 : w3.cell? ⟨w.heap.size + 1, 0, none⟩ = some (.bool s) := cell_keep (h := hs3) (by simp [*, go_sem]); have f1 : w3.cell? ⟨w.heap.size + 1, 1, none⟩ = some (.slice A k c) := cell_keep (h := hs3) (by simp [*, go_sem]); have f2 : w3.cell? ⟨w.heap.size + 1, 2, none⟩ = some ((.slice A' k' c')) := cell_keep (h := hs3) (by simp [*, go_sem])))
      by_cases hR0 : R = 0
      · have hk5 := hl0.2 hR0
        have f5 : decide (0 < k5) = false := decide_eq_false (by omega)
        rw [if_neg (by omega)] at hg
        have HGB := Lib.hid hgb; have HG := Lib.hid hg; have HRR := Lib.hid hR; have H53 := Lib.hid h53
        clear hl0 hR0 hgb hg hR h53 hbr hbd hbr2 hk5
        go_quiet (fail)
        go_wp2_with (first | (go_at_call 78; refine use (HLA.out _ Q s e way _ N3.up (by have := HGB.out; rw [HG.out] at this; exact this) (by omega) (by omega) r o (by have := HRR.out; rw [HG.out] at this; exact this)) ?_; rintro e1 w4 ⟨rfl, hs4⟩))
        go_ret2
        exact ⟨rfl, Step.of⟩
      · have f5 : decide (0 < k5) = true := decide_eq_true (by omega)
        have hd0 : decide (Q % 2 = 0) = decide (Q % 2 = 0) := rfl
        have hcm := fun a b w h1 h2 => nat_cmp a b (R * 2) D w h1 h2 hbr2 (by omega)
        have hsh := fun w h => nat_shl (.slice A5 k5 c5) R 1 w h (by omega) (by omega) (by omega)
        have haw := fun w => raway_calls way s (!decide (Q % 2 = 0)) (cmpN (R * 2) D) w _ rfl
        have hR1 : 0 < R := by omega
        generalize decide (Q % 2 = 0) = ev at *
        generalize hcv : cmpN (R * 2) D = cv at *
        generalize hav : awayB way s (!ev) cv = av at *
        have HCM := Lib.hid hcm; have HSH := Lib.hid hsh; have HAW := Lib.hid haw
        have HGB := Lib.hid hgb; have HG := Lib.hid hg; have HRR := Lib.hid hR; have H53 := Lib.hid h53; have HR1 := Lib.hid hR1
        clear hl0 hR0 hgb hg hR h53 hbr hbd hbr2 hcm hsh haw hd0 hav hcv hR1
        go_region_held3 (fun w' => w'.cell? ⟨w.heap.size, 0, none⟩ = some (.int .i64 53) ∧ w'.cell? ⟨w.heap.size, 1, none⟩ = some (.int .i64 (-1074)) ∧ w'.cell? ⟨w.heap.size, 2, none⟩ = some (.int .i64 971) ∧ w'.cell? ⟨w.heap.size, 3, none⟩ = some (.int .i64 52) ∧ w'.cell? ⟨w.heap.size + 1, 0, none⟩ = some (.bool s) ∧ w'.cell? ⟨w.heap.size + 1, 1, none⟩ = some (.slice A k c) ∧ w'.cell? ⟨w.heap.size + 1, 2, none⟩ = some (.slice A' k' c')) (first | go_keep | exact ⟨cell_keep (by simp [*, go_sem]), cell_keep (by simp [*, go_sem]), cell_keep (by simp [*, go_sem]), cell_keep (by simp [*, go_sem]), cell_keep (by simp [*, go_sem]), cell_keep (by simp [*, go_sem]), cell_keep (by simp [*, go_sem])⟩) (first | (go_at_call 76; refine use (HEV.out _ N3.up) ?_; rintro e1 w4 ⟨rfl, rfl⟩) | (go_at_call 57; refine use (HSH.out _ M3.up) ?_; rintro e1 w4 ⟨v4, rfl, N5, hs4⟩) | (go_at_call 68; refine use (HCM.out _ _ _ N5.up M4.up) ?_; rintro e1 w5 ⟨rfl, hs5⟩) | (go_at_call 75; refine use (HAW.out _) ?_; rintro e1 w6 ⟨rfl, rfl⟩))
        rename_i hHeld
        obtain ⟨d0, d1, d2, d3, f0, f1, f2⟩ := hHeld
        cases av
        · go_wp2_with (first | (go_at_call 78; refine use (HLA.out _ Q s e way _ N3.up (by have := H53.out; omega) (by omega) (by omega) r o (by have := HRR.out; rw [HG.out, if_neg (by simp)] at this; exact this)) ?_; rintro e1 w7 ⟨rfl, hs7⟩))
          go_ret2
          exact ⟨rfl, Step.of⟩
        · go_wp2_with (first | (go_at_call 77; refine use (nat_add _ _ Q 1 _ N3.up (IsNat.one _ _) (by have := H53.out; omega) (by decide)) ?_; rintro e1 w7 ⟨v7, rfl, N7, hs7⟩; have d0 := Ext.cell (b := w7) inferInstance d0; have d1 := Ext.cell (b := w7) inferInstance d1; have d2 := Ext.cell (b := w7) inferInstance d2; have d3 := Ext.cell (b := w7) inferInstance d3; have f0 := Ext.cell (b := w7) inferInstance f0; have f1 := Ext.cell (b := w7) inferInstance f1; have f2 := Ext.cell (b := w7) inferInstance f2) | (go_at_call 78; refine use (HLA.out _ (Q + 1) s e way _ N7.up (by have := HGB.out; rw [HG.out, if_pos ⟨HR1.out, by first | trivial | rfl⟩] at this; exact this) (by omega) (by omega) r o (by have := HRR.out; rw [HG.out, if_pos ⟨HR1.out, by first | trivial | rfl⟩] at this; exact this)) ?_; rintro e1 w8 ⟨rfl, hs8⟩))
          go_ret2
          exact ⟨rfl, Step.of⟩
    · have hee : e = e0 ∧ (53 : Int) < bl (scNn x.num.natAbs e0 / scNn x.den (-e0)) := by
        rcases he with rfl | ⟨rfl, h⟩
        · exact ⟨rfl, by omega⟩
        · exact absurd EB1.out h53
      obtain ⟨rfl, h54⟩ := hee
      obtain ⟨B3, hB3⟩ : ∃ B : Int, (bl (scNn x.num.natAbs e / scNn x.den (-e)) : Int) = B := ⟨_, rfl⟩
      have hB3r : 53 < B3 := by omega
      have hbt := fun w h => nat_bits u9 (scNn x.num.natAbs e / scNn x.den (-e)) w h (by omega) B3 hB3
      have H54 := Lib.hid h54
      have HBT := Lib.hid hbt
      clear h54 h53 hbe he hB3 hbt
      go_upto_region 5 with (fail)
      go_region_held3 (fun w' => w'.cell? ⟨w.heap.size, 0, none⟩ = some (.int .i64 53) ∧ w'.cell? ⟨w.heap.size, 1, none⟩ = some (.int .i64 (-1074)) ∧ w'.cell? ⟨w.heap.size, 2, none⟩ = some (.int .i64 971) ∧ w'.cell? ⟨w.heap.size, 3, none⟩ = some (.int .i64 52) ∧ w'.cell? ⟨w.heap.size + 1, 0, none⟩ = some (.bool s) ∧ w'.cell? ⟨w.heap.size + 1, 1, none⟩ = some (.slice A k c) ∧ w'.cell? ⟨w.heap.size + 1, 2, none⟩ = some (.slice A' k' c')) (first | go_keep | exact ⟨cell_keep (by simp [*, go_sem]), cell_keep (by simp [*, go_sem]), cell_keep (by simp [*, go_sem]), cell_keep (by simp [*, go_sem]), cell_keep (by simp [*, go_sem]), cell_keep (by simp [*, go_sem]), cell_keep (by simp [*, go_sem])⟩) (first | (go_at_call 72; refine use (HBT.out _ N3.up) ?_; rintro e1 w3 ⟨rfl, rfl⟩))
      go_wp2_with (first | (go_at_call 73; refine use (HFL.out (e + 1) (by omega) (by omega) _ hv0.up) ?_; rintro e2 w3 ⟨u3, v3, rfl, N4, M4, hs3⟩; have d0 : w3.cell? ⟨w.heap.size, 0, none⟩ = some (.int .i64 53) := cell_keep (h := hs3) (by simp [*, go_sem]); have d1 : w3.cell? ⟨w.heap.size, 1, none⟩ = some (.int .i64 (-1074)) := cell_keep (h := hs3) (by simp [*, go_sem]); have d2 : w3.cell? ⟨w.heap.size, 2, none⟩ = some (.int .i64 971) := cell_keep (h := hs3) (by simp [*, go_sem]); have d3 : w3.cell? ⟨w.heap.size, 3, none⟩ = some (.int .i64 52) := cell_keep (h := hs3) (by simp [*, go_sem]); have f0 : w3.cell? ⟨w.heap.size + 1, 0, none⟩ = some (.bool s) := cell_keep (h := hs3) (by simp [*, go_sem]); have f1 : w3.cell? ⟨w.heap.size + 1, 1, none⟩ = some (.slice A k c) := cell_keep (h := hs3) (by simp [*, go_sem]); have f2 : w3.cell? ⟨w.heap.size + 1, 2, none⟩ = some ((.slice A' k' c')) := cell_keep (h := hs3) (by simp [*, go_sem])))
      exact ⟨⟨e + 1, rfl, .inr ⟨rfl, H54.out⟩, N4, M4, ⟨d0, d1, d2, d3, f0, f1, f2⟩, inferInstance⟩, by simp [intOf]; omega⟩
end Tt
