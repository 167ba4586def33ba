/- Floats by their bits: the document's Join, small. -/
import Derived.Test.YtjjnhmcoodahgaaDoorFlF
namespace Tt
open Go Go.RowKit Go.Proofs
set_option linter.unusedSimpArgs false
set_option linter.unusedVariables false
set_option maxRecDepth 100000

/-- The bits that the document makes of parts. -/
def jbS (k : Int) (neg : Bool) (m x : Int) : Int :=
  if k = 4 then 2143289344 else if k = 3 then (if neg = true then 4286578688 else 2139095040) else if k = 0 then (if neg = true then 2147483648 else 0)
  else if k = 1 then (if neg = true then m % 8388608 + 2147483648 else m % 8388608)
  else if k = 2 ∧ -149 ≤ x ∧ x ≤ 104 then (if neg = true then (x + 150) * 8388608 + m % 8388608 + 2147483648 else (x + 150) * 8388608 + m % 8388608) else 0
theorem jbS_range (k : Int) (neg : Bool) (m x : Int) : 0 ≤ jbS k neg m x ∧ jbS k neg m x < 4294967296 := by
  unfold jbS
  cases neg <;> simp only [if_true, if_false, Bool.false_eq_true] <;> (repeat' split) <;> omega
set_option maxHeartbeats 8000000 in
theorem rjoinS_calls (k : Int) (neg : Bool) (m x : Int) (h0 : 0 ≤ m) (h1 : m < 18446744073709551616) (w : World) (r e : Int)
    (hok : (splitS (jbS k neg m x) = #[.int .i64 k, .bool neg, .int .u64 m, .int .i64 x] ∧ r = jbS k neg m x ∧ e = 0) ∨ (splitS (jbS k neg m x) ≠ #[.int .i64 k, .bool neg, .int .u64 m, .int .i64 x] ∧ r = 0 ∧ e = 21)) :
    Calls Tryd.prog 16 #[smallV, partsV k neg m x] w (RetV w (.tuple #[.int .u64 r, .int .i64 e])) := by
  have hsp := fun w cs h => rsplitS_calls (jbS k neg m x) (jbS_range k neg m x).1 (jbS_range k neg m x).2 w cs h
  have hno := snone_calls
  have hin := sinf_calls
  have hsg := ssigned_calls
  unfold smallV partsV at *
  have hu := Tryd.underlying25
  have huz := Tryd.underlying31
  have HOK := Lib.hid hok; clear hok
  have HSP := Lib.hid hsp; clear hsp
  have HNO := Lib.hid hno; clear hno
  have HIN := Lib.hid hin; clear hin
  have HSG := Lib.hid hsg; clear hsg
  have A0 := Lib.hid (two_cells w 0 (v := .int .i64 24) rfl : ((w.alloc (.cells #[.int .i64 24, .int .i64 (-149), .int .i64 104, .int .i64 23] 31)).alloc (.cells #[.int .i64 k, .bool neg, .int .u64 m, .int .i64 x] 25)).cell? ⟨w.heap.size, 0, none⟩ = some (.int .i64 24))
  have A1 := Lib.hid (two_cells w 1 (v := .int .i64 (-149)) rfl : ((w.alloc (.cells #[.int .i64 24, .int .i64 (-149), .int .i64 104, .int .i64 23] 31)).alloc (.cells #[.int .i64 k, .bool neg, .int .u64 m, .int .i64 x] 25)).cell? ⟨w.heap.size, 1, none⟩ = some (.int .i64 (-149)))
  have A2 := Lib.hid (two_cells w 2 (v := .int .i64 104) rfl : ((w.alloc (.cells #[.int .i64 24, .int .i64 (-149), .int .i64 104, .int .i64 23] 31)).alloc (.cells #[.int .i64 k, .bool neg, .int .u64 m, .int .i64 x] 25)).cell? ⟨w.heap.size, 2, none⟩ = some (.int .i64 104))
  have A3 := Lib.hid (two_cells w 3 (v := .int .i64 23) rfl : ((w.alloc (.cells #[.int .i64 24, .int .i64 (-149), .int .i64 104, .int .i64 23] 31)).alloc (.cells #[.int .i64 k, .bool neg, .int .u64 m, .int .i64 x] 25)).cell? ⟨w.heap.size, 3, none⟩ = some (.int .i64 23))
  have B0 := Lib.hid (two_cells' w 0 (v := .int .i64 k) rfl : ((w.alloc (.cells #[.int .i64 24, .int .i64 (-149), .int .i64 104, .int .i64 23] 31)).alloc (.cells #[.int .i64 k, .bool neg, .int .u64 m, .int .i64 x] 25)).cell? ⟨w.heap.size + 1, 0, none⟩ = some (.int .i64 k))
  have B1 := Lib.hid (two_cells' w 1 (v := .bool neg) rfl : ((w.alloc (.cells #[.int .i64 24, .int .i64 (-149), .int .i64 104, .int .i64 23] 31)).alloc (.cells #[.int .i64 k, .bool neg, .int .u64 m, .int .i64 x] 25)).cell? ⟨w.heap.size + 1, 1, none⟩ = some (.bool neg))
  have B2 := Lib.hid (two_cells' w 2 (v := .int .u64 m) rfl : ((w.alloc (.cells #[.int .i64 24, .int .i64 (-149), .int .i64 104, .int .i64 23] 31)).alloc (.cells #[.int .i64 k, .bool neg, .int .u64 m, .int .i64 x] 25)).cell? ⟨w.heap.size + 1, 2, none⟩ = some (.int .u64 m))
  have B3 := Lib.hid (two_cells' w 3 (v := .int .i64 x) rfl : ((w.alloc (.cells #[.int .i64 24, .int .i64 (-149), .int .i64 104, .int .i64 23] 31)).alloc (.cells #[.int .i64 k, .bool neg, .int .u64 m, .int .i64 x] 25)).cell? ⟨w.heap.size + 1, 3, none⟩ = some (.int .i64 x))
  go_enter Tryd.func16, Tryd.ntmps16
  go_upto_block 0 with (fail)
  go_cut [6] from 9 to 73 (fun v6 wc => v6 = .int .u64 (jbS k neg m x) ∧ Ext ((w.alloc (.cells #[.int .i64 24, .int .i64 (-149), .int .i64 104, .int .i64 23] 31)).alloc (.cells #[.int .i64 k, .bool neg, .int .u64 m, .int .i64 x] 25)) wc)
  case first =>
    rcases (by omega : k = 4 ∨ k = 3 ∨ k = 0 ∨ k = 1 ∨ k = 2 ∨ (k ≠ 0 ∧ k ≠ 1 ∧ k ≠ 2 ∧ k ≠ 3 ∧ k ≠ 4)) with rfl | rfl | rfl | rfl | rfl | ⟨hk0, hk1, hk2, hk3, hk4⟩
    · have hno := HNO.out
      go_wp2_with (first | (go_at_call 46; refine use (hno _) ?_; rintro e w1 ⟨rfl, hs1⟩))
      go_meet
      case rel => exact ⟨rfl, inferInstance⟩
    · have hin := fun w => HIN.out neg w
      generalize hv : (if neg = true then (4286578688 : Int) else 2139095040) = v at hin
      have HV := Lib.hid hv; clear hv
      go_wp2_with (first | (go_at_call 47; refine use (hin _) ?_; rintro e w1 ⟨rfl, hs1⟩))
      go_meet
      case rel => exact ⟨by rw [← HV.out]; rfl, inferInstance⟩
    · have hsg := fun w => HSG.out 0 neg (by omega) (by omega) w
      generalize hv : (if neg = true then (0 : Int) + 2147483648 else 0) = v at hsg
      have HV := Lib.hid hv; clear hv
      go_wp2_with (first | (go_at_call 48; refine use (hsg _) ?_; rintro e w1 ⟨rfl, hs1⟩))
      go_meet
      case rel => exact ⟨by rw [← HV.out]; rfl, inferInstance⟩
    · have hsg := fun w => HSG.out (m % 8388608) neg (by omega) (by omega) w
      generalize hv : (if neg = true then m % 8388608 + 2147483648 else m % 8388608) = v at hsg
      have HV := Lib.hid hv; clear hv
      have e1 : bits .and .u64 m 8388607 = m % 8388608 := u64_mask 23 (by omega) _ _ (by omega) (by omega) rfl
      have q5 : IntKind.u64.wrap 8388608 = 8388608 := by decide
      have q6 : IntKind.u64.wrap 8388607 = 8388607 := by decide
      go_upto_region 10 with (fail)
      go_region_held3 (fun w' => w'.cell? ⟨w.heap.size, 0, none⟩ = some (.int .i64 24) ∧ w'.cell? ⟨w.heap.size, 1, none⟩ = some (.int .i64 (-149)) ∧ w'.cell? ⟨w.heap.size, 2, none⟩ = some (.int .i64 104) ∧ w'.cell? ⟨w.heap.size, 3, none⟩ = some (.int .i64 23) ∧ w'.cell? ⟨w.heap.size + 1, 0, none⟩ = some (.int .i64 1) ∧ w'.cell? ⟨w.heap.size + 1, 1, none⟩ = some (.bool neg) ∧ w'.cell? ⟨w.heap.size + 1, 2, none⟩ = some (.int .u64 m) ∧ w'.cell? ⟨w.heap.size + 1, 3, none⟩ = some (.int .i64 x)) (first | exact ⟨Ext.cell (a := ((w.alloc (.cells #[.int .i64 24, .int .i64 (-149), .int .i64 104, .int .i64 23] 31)).alloc (.cells #[.int .i64 1, .bool neg, .int .u64 m, .int .i64 x] 25))) inferInstance A0.out, Ext.cell (a := ((w.alloc (.cells #[.int .i64 24, .int .i64 (-149), .int .i64 104, .int .i64 23] 31)).alloc (.cells #[.int .i64 1, .bool neg, .int .u64 m, .int .i64 x] 25))) inferInstance A1.out, Ext.cell (a := ((w.alloc (.cells #[.int .i64 24, .int .i64 (-149), .int .i64 104, .int .i64 23] 31)).alloc (.cells #[.int .i64 1, .bool neg, .int .u64 m, .int .i64 x] 25))) inferInstance A2.out, Ext.cell (a := ((w.alloc (.cells #[.int .i64 24, .int .i64 (-149), .int .i64 104, .int .i64 23] 31)).alloc (.cells #[.int .i64 1, .bool neg, .int .u64 m, .int .i64 x] 25))) inferInstance A3.out, Ext.cell (a := ((w.alloc (.cells #[.int .i64 24, .int .i64 (-149), .int .i64 104, .int .i64 23] 31)).alloc (.cells #[.int .i64 1, .bool neg, .int .u64 m, .int .i64 x] 25))) inferInstance B0.out, Ext.cell (a := ((w.alloc (.cells #[.int .i64 24, .int .i64 (-149), .int .i64 104, .int .i64 23] 31)).alloc (.cells #[.int .i64 1, .bool neg, .int .u64 m, .int .i64 x] 25))) inferInstance B1.out, Ext.cell (a := ((w.alloc (.cells #[.int .i64 24, .int .i64 (-149), .int .i64 104, .int .i64 23] 31)).alloc (.cells #[.int .i64 1, .bool neg, .int .u64 m, .int .i64 x] 25))) inferInstance B2.out, Ext.cell (a := ((w.alloc (.cells #[.int .i64 24, .int .i64 (-149), .int .i64 104, .int .i64 23] 31)).alloc (.cells #[.int .i64 1, .bool neg, .int .u64 m, .int .i64 x] 25))) inferInstance B3.out⟩ | go_keep) (first | (go_at_call 48; (try simp only [q5, q6, e1]); refine use (hsg _) ?_; rintro e w1 ⟨rfl, hs1⟩))
      go_wp2
      go_meet
      case rel => exact ⟨by rw [← HV.out]; rfl, inferInstance⟩
    · by_cases hx1 : -149 ≤ x
      · have fx1 : decide (-149 ≤ x) = true := decide_eq_true hx1
        by_cases hx2 : x ≤ 104
        · have fx2 : decide (x ≤ 104) = true := decide_eq_true hx2
          have hsg := fun w => HSG.out ((x + 150) * 8388608 + m % 8388608) neg (by omega) (by omega) w
          generalize hv : (if neg = true then (x + 150) * 8388608 + m % 8388608 + 2147483648 else (x + 150) * 8388608 + m % 8388608) = v at hsg
          have HV := Lib.hid hv; clear hv
          have e1 : bits .and .u64 m 8388607 = m % 8388608 := u64_mask 23 (by omega) _ _ (by omega) (by omega) rfl
          have q5 : IntKind.u64.wrap 8388608 = 8388608 := by decide
          have q6 : IntKind.u64.wrap 8388607 = 8388607 := by decide
          have e2 : bits .or .u64 ((x + 150) * 8388608) (m % 8388608) = (x + 150) * 8388608 + m % 8388608 := u64_join 23 _ _ (by omega) (by omega) (by omega) (by omega) (by omega) (by omega)
          have q1 : IntKind.i64.wrap (x + 149) = x + 149 := by rw [IntKind.wrap_i64]; omega
          have q2 : IntKind.i64.wrap (x + 149 + 1) = x + 150 := by rw [IntKind.wrap_i64]; omega
          have q3 : IntKind.u64.wrap (x + 150) = x + 150 := u64_in _ (by omega) (by omega)
          have q4 : IntKind.u64.wrap ((x + 150) * 8388608) = (x + 150) * 8388608 := u64_in _ (by omega) (by omega)
          have HJ := Lib.hid (show jbS 2 neg m x = (if neg = true then (x + 150) * 8388608 + m % 8388608 + 2147483648 else (x + 150) * 8388608 + m % 8388608) by unfold jbS; rw [if_neg (show ¬ (2 : Int) = 4 by omega), if_neg (show ¬ (2 : Int) = 3 by omega), if_neg (show ¬ (2 : Int) = 0 by omega), if_neg (show ¬ (2 : Int) = 1 by omega), if_pos ⟨rfl, hx1, hx2⟩])
          go_upto_region 13 with (fail)
          go_region_held3 (fun w' => w'.cell? ⟨w.heap.size, 0, none⟩ = some (.int .i64 24) ∧ w'.cell? ⟨w.heap.size, 1, none⟩ = some (.int .i64 (-149)) ∧ w'.cell? ⟨w.heap.size, 2, none⟩ = some (.int .i64 104) ∧ w'.cell? ⟨w.heap.size, 3, none⟩ = some (.int .i64 23) ∧ w'.cell? ⟨w.heap.size + 1, 0, none⟩ = some (.int .i64 2) ∧ w'.cell? ⟨w.heap.size + 1, 1, none⟩ = some (.bool neg) ∧ w'.cell? ⟨w.heap.size + 1, 2, none⟩ = some (.int .u64 m) ∧ w'.cell? ⟨w.heap.size + 1, 3, none⟩ = some (.int .i64 x)) (first | exact ⟨Ext.cell (a := ((w.alloc (.cells #[.int .i64 24, .int .i64 (-149), .int .i64 104, .int .i64 23] 31)).alloc (.cells #[.int .i64 2, .bool neg, .int .u64 m, .int .i64 x] 25))) inferInstance A0.out, Ext.cell (a := ((w.alloc (.cells #[.int .i64 24, .int .i64 (-149), .int .i64 104, .int .i64 23] 31)).alloc (.cells #[.int .i64 2, .bool neg, .int .u64 m, .int .i64 x] 25))) inferInstance A1.out, Ext.cell (a := ((w.alloc (.cells #[.int .i64 24, .int .i64 (-149), .int .i64 104, .int .i64 23] 31)).alloc (.cells #[.int .i64 2, .bool neg, .int .u64 m, .int .i64 x] 25))) inferInstance A2.out, Ext.cell (a := ((w.alloc (.cells #[.int .i64 24, .int .i64 (-149), .int .i64 104, .int .i64 23] 31)).alloc (.cells #[.int .i64 2, .bool neg, .int .u64 m, .int .i64 x] 25))) inferInstance A3.out, Ext.cell (a := ((w.alloc (.cells #[.int .i64 24, .int .i64 (-149), .int .i64 104, .int .i64 23] 31)).alloc (.cells #[.int .i64 2, .bool neg, .int .u64 m, .int .i64 x] 25))) inferInstance B0.out, Ext.cell (a := ((w.alloc (.cells #[.int .i64 24, .int .i64 (-149), .int .i64 104, .int .i64 23] 31)).alloc (.cells #[.int .i64 2, .bool neg, .int .u64 m, .int .i64 x] 25))) inferInstance B1.out, Ext.cell (a := ((w.alloc (.cells #[.int .i64 24, .int .i64 (-149), .int .i64 104, .int .i64 23] 31)).alloc (.cells #[.int .i64 2, .bool neg, .int .u64 m, .int .i64 x] 25))) inferInstance B2.out, Ext.cell (a := ((w.alloc (.cells #[.int .i64 24, .int .i64 (-149), .int .i64 104, .int .i64 23] 31)).alloc (.cells #[.int .i64 2, .bool neg, .int .u64 m, .int .i64 x] 25))) inferInstance B3.out⟩ | go_keep) (first | (go_at_call 48; (try simp only [q1, q2, q3, q4, q5, q6, e1, e2]); refine use (hsg _) ?_; rintro e w1 ⟨rfl, hs1⟩))
          go_wp2
          go_meet
          case rel => exact ⟨by rw [← HV.out, HJ.out], inferInstance⟩
        · have fx2 : decide (x ≤ 104) = false := decide_eq_false hx2
          go_wp2
          go_meet
          case rel => exact ⟨by unfold jbS; rw [if_neg (by omega), if_neg (by omega), if_neg (by omega), if_neg (by omega), if_neg (by omega)], inferInstance⟩
      · have fx1 : decide (-149 ≤ x) = false := decide_eq_false hx1
        go_wp2
        go_meet
        case rel => exact ⟨by unfold jbS; rw [if_neg (by omega), if_neg (by omega), if_neg (by omega), if_neg (by omega), if_neg (by omega)], inferInstance⟩
    · have f0 : (k == 0) = false := beq_f hk0
      have f1 : (k == 1) = false := beq_f hk1
      have f2 : (k == 2) = false := beq_f hk2
      have f3 : (k == 3) = false := beq_f hk3
      have f4 : (k == 4) = false := beq_f hk4
      go_wp2
      go_meet
      case rel => exact ⟨by unfold jbS; rw [if_neg hk4, if_neg hk3, if_neg hk0, if_neg hk1, if_neg (by omega)], inferInstance⟩
  case rest =>
    obtain ⟨rfl, HE⟩ := hcut
    have a0 : wc.cell? ⟨w.heap.size, 0, none⟩ = some (.int .i64 24) := HE.cell A0.out
    have a1 : wc.cell? ⟨w.heap.size, 1, none⟩ = some (.int .i64 (-149)) := HE.cell A1.out
    have a2 : wc.cell? ⟨w.heap.size, 2, none⟩ = some (.int .i64 104) := HE.cell A2.out
    have a3 : wc.cell? ⟨w.heap.size, 3, none⟩ = some (.int .i64 23) := HE.cell A3.out
    have b0 : wc.cell? ⟨w.heap.size + 1, 0, none⟩ = some (.int .i64 k) := HE.cell B0.out
    have b1 : wc.cell? ⟨w.heap.size + 1, 1, none⟩ = some (.bool neg) := HE.cell B1.out
    have b2 : wc.cell? ⟨w.heap.size + 1, 2, none⟩ = some (.int .u64 m) := HE.cell B2.out
    have b3 : wc.cell? ⟨w.heap.size + 1, 3, none⟩ = some (.int .i64 x) := HE.cell B3.out
    have HW : Ext w wc := Ext.trans (b := ((w.alloc (.cells #[.int .i64 24, .int .i64 (-149), .int .i64 104, .int .i64 23] 31)).alloc (.cells #[.int .i64 k, .bool neg, .int .u64 m, .int .i64 x] 25))) inferInstance HE
    rcases HOK.out with ⟨hcs, hr, he⟩ | ⟨hcs, hr, he⟩
    · have hsp := fun w => HSP.out w _ hcs
      obtain rfl := hr
      obtain rfl := he
      clear hcs
      go_upto_region 14 with (fail)
      go_region_held3 (fun w' => w'.cell? ⟨w.heap.size, 0, none⟩ = some (.int .i64 24) ∧ w'.cell? ⟨w.heap.size, 1, none⟩ = some (.int .i64 (-149)) ∧ w'.cell? ⟨w.heap.size, 2, none⟩ = some (.int .i64 104) ∧ w'.cell? ⟨w.heap.size, 3, none⟩ = some (.int .i64 23) ∧ w'.cell? ⟨w.heap.size + 1, 0, none⟩ = some (.int .i64 k) ∧ w'.cell? ⟨w.heap.size + 1, 1, none⟩ = some (.bool neg) ∧ w'.cell? ⟨w.heap.size + 1, 2, none⟩ = some (.int .u64 m) ∧ w'.cell? ⟨w.heap.size + 1, 3, none⟩ = some (.int .i64 x)) (first | exact ⟨Ext.cell (a := ((w.alloc (.cells #[.int .i64 24, .int .i64 (-149), .int .i64 104, .int .i64 23] 31)).alloc (.cells #[.int .i64 k, .bool neg, .int .u64 m, .int .i64 x] 25))) (Ext.trans HE inferInstance) A0.out, Ext.cell (a := ((w.alloc (.cells #[.int .i64 24, .int .i64 (-149), .int .i64 104, .int .i64 23] 31)).alloc (.cells #[.int .i64 k, .bool neg, .int .u64 m, .int .i64 x] 25))) (Ext.trans HE inferInstance) A1.out, Ext.cell (a := ((w.alloc (.cells #[.int .i64 24, .int .i64 (-149), .int .i64 104, .int .i64 23] 31)).alloc (.cells #[.int .i64 k, .bool neg, .int .u64 m, .int .i64 x] 25))) (Ext.trans HE inferInstance) A2.out, Ext.cell (a := ((w.alloc (.cells #[.int .i64 24, .int .i64 (-149), .int .i64 104, .int .i64 23] 31)).alloc (.cells #[.int .i64 k, .bool neg, .int .u64 m, .int .i64 x] 25))) (Ext.trans HE inferInstance) A3.out, Ext.cell (a := ((w.alloc (.cells #[.int .i64 24, .int .i64 (-149), .int .i64 104, .int .i64 23] 31)).alloc (.cells #[.int .i64 k, .bool neg, .int .u64 m, .int .i64 x] 25))) (Ext.trans HE inferInstance) B0.out, Ext.cell (a := ((w.alloc (.cells #[.int .i64 24, .int .i64 (-149), .int .i64 104, .int .i64 23] 31)).alloc (.cells #[.int .i64 k, .bool neg, .int .u64 m, .int .i64 x] 25))) (Ext.trans HE inferInstance) B1.out, Ext.cell (a := ((w.alloc (.cells #[.int .i64 24, .int .i64 (-149), .int .i64 104, .int .i64 23] 31)).alloc (.cells #[.int .i64 k, .bool neg, .int .u64 m, .int .i64 x] 25))) (Ext.trans HE inferInstance) B2.out, Ext.cell (a := ((w.alloc (.cells #[.int .i64 24, .int .i64 (-149), .int .i64 104, .int .i64 23] 31)).alloc (.cells #[.int .i64 k, .bool neg, .int .u64 m, .int .i64 x] 25))) (Ext.trans HE inferInstance) B3.out⟩ | go_keep) (first | (go_at_call 10; refine use (hsp _) ?_; rintro e w1 ⟨rfl, hs1⟩))
      go_wp2
      go_ret2
      exact ⟨rfl, Step.of⟩
    · obtain ⟨k', n', m', x', hcs'⟩ : ∃ (a : Int) (b : Bool) (c d : Int), splitS (jbS k neg m x) = #[.int .i64 a, .bool b, .int .u64 c, .int .i64 d] := by unfold splitS; exact parts_shape _ _ _ _ _ _
      have hsp := fun w => HSP.out w _ hcs'
      obtain rfl := hr
      obtain rfl := he
      rw [hcs'] at hcs
      clear hcs'
      have hne : ¬ (k' = k ∧ n' = neg ∧ m' = m ∧ x' = x) := fun ⟨a, b, c, d⟩ => hcs (by rw [a, b, c, d])
      clear hcs
      go_upto_region 14 with (fail)
      rcases Bool.eq_false_or_eq_true (k' == k) with f1 | f1
      · rcases Bool.eq_false_or_eq_true (n' == neg) with f2 | f2
        · rcases Bool.eq_false_or_eq_true (m' == m) with f3 | f3
          · have f4 : (x' == x) = false := beq_f (fun h => hne ⟨beq_iff_eq.1 f1, beq_iff_eq.1 f2, beq_iff_eq.1 f3, h⟩)
            go_region_held3 (fun w' => w'.cell? ⟨w.heap.size, 0, none⟩ = some (.int .i64 24) ∧ w'.cell? ⟨w.heap.size, 1, none⟩ = some (.int .i64 (-149)) ∧ w'.cell? ⟨w.heap.size, 2, none⟩ = some (.int .i64 104) ∧ w'.cell? ⟨w.heap.size, 3, none⟩ = some (.int .i64 23) ∧ w'.cell? ⟨w.heap.size + 1, 0, none⟩ = some (.int .i64 k) ∧ w'.cell? ⟨w.heap.size + 1, 1, none⟩ = some (.bool neg) ∧ w'.cell? ⟨w.heap.size + 1, 2, none⟩ = some (.int .u64 m) ∧ w'.cell? ⟨w.heap.size + 1, 3, none⟩ = some (.int .i64 x)) (first | exact ⟨Ext.cell (a := ((w.alloc (.cells #[.int .i64 24, .int .i64 (-149), .int .i64 104, .int .i64 23] 31)).alloc (.cells #[.int .i64 k, .bool neg, .int .u64 m, .int .i64 x] 25))) (Ext.trans HE inferInstance) A0.out, Ext.cell (a := ((w.alloc (.cells #[.int .i64 24, .int .i64 (-149), .int .i64 104, .int .i64 23] 31)).alloc (.cells #[.int .i64 k, .bool neg, .int .u64 m, .int .i64 x] 25))) (Ext.trans HE inferInstance) A1.out, Ext.cell (a := ((w.alloc (.cells #[.int .i64 24, .int .i64 (-149), .int .i64 104, .int .i64 23] 31)).alloc (.cells #[.int .i64 k, .bool neg, .int .u64 m, .int .i64 x] 25))) (Ext.trans HE inferInstance) A2.out, Ext.cell (a := ((w.alloc (.cells #[.int .i64 24, .int .i64 (-149), .int .i64 104, .int .i64 23] 31)).alloc (.cells #[.int .i64 k, .bool neg, .int .u64 m, .int .i64 x] 25))) (Ext.trans HE inferInstance) A3.out, Ext.cell (a := ((w.alloc (.cells #[.int .i64 24, .int .i64 (-149), .int .i64 104, .int .i64 23] 31)).alloc (.cells #[.int .i64 k, .bool neg, .int .u64 m, .int .i64 x] 25))) (Ext.trans HE inferInstance) B0.out, Ext.cell (a := ((w.alloc (.cells #[.int .i64 24, .int .i64 (-149), .int .i64 104, .int .i64 23] 31)).alloc (.cells #[.int .i64 k, .bool neg, .int .u64 m, .int .i64 x] 25))) (Ext.trans HE inferInstance) B1.out, Ext.cell (a := ((w.alloc (.cells #[.int .i64 24, .int .i64 (-149), .int .i64 104, .int .i64 23] 31)).alloc (.cells #[.int .i64 k, .bool neg, .int .u64 m, .int .i64 x] 25))) (Ext.trans HE inferInstance) B2.out, Ext.cell (a := ((w.alloc (.cells #[.int .i64 24, .int .i64 (-149), .int .i64 104, .int .i64 23] 31)).alloc (.cells #[.int .i64 k, .bool neg, .int .u64 m, .int .i64 x] 25))) (Ext.trans HE inferInstance) B3.out⟩ | go_keep) (first | (go_at_call 10; refine use (hsp _) ?_; rintro e w1 ⟨rfl, hs1⟩))
            go_wp2
            go_ret2
            exact ⟨rfl, Step.of⟩
          · go_region_held3 (fun w' => w'.cell? ⟨w.heap.size, 0, none⟩ = some (.int .i64 24) ∧ w'.cell? ⟨w.heap.size, 1, none⟩ = some (.int .i64 (-149)) ∧ w'.cell? ⟨w.heap.size, 2, none⟩ = some (.int .i64 104) ∧ w'.cell? ⟨w.heap.size, 3, none⟩ = some (.int .i64 23) ∧ w'.cell? ⟨w.heap.size + 1, 0, none⟩ = some (.int .i64 k) ∧ w'.cell? ⟨w.heap.size + 1, 1, none⟩ = some (.bool neg) ∧ w'.cell? ⟨w.heap.size + 1, 2, none⟩ = some (.int .u64 m) ∧ w'.cell? ⟨w.heap.size + 1, 3, none⟩ = some (.int .i64 x)) (first | exact ⟨Ext.cell (a := ((w.alloc (.cells #[.int .i64 24, .int .i64 (-149), .int .i64 104, .int .i64 23] 31)).alloc (.cells #[.int .i64 k, .bool neg, .int .u64 m, .int .i64 x] 25))) (Ext.trans HE inferInstance) A0.out, Ext.cell (a := ((w.alloc (.cells #[.int .i64 24, .int .i64 (-149), .int .i64 104, .int .i64 23] 31)).alloc (.cells #[.int .i64 k, .bool neg, .int .u64 m, .int .i64 x] 25))) (Ext.trans HE inferInstance) A1.out, Ext.cell (a := ((w.alloc (.cells #[.int .i64 24, .int .i64 (-149), .int .i64 104, .int .i64 23] 31)).alloc (.cells #[.int .i64 k, .bool neg, .int .u64 m, .int .i64 x] 25))) (Ext.trans HE inferInstance) A2.out, Ext.cell (a := ((w.alloc (.cells #[.int .i64 24, .int .i64 (-149), .int .i64 104, .int .i64 23] 31)).alloc (.cells #[.int .i64 k, .bool neg, .int .u64 m, .int .i64 x] 25))) (Ext.trans HE inferInstance) A3.out, Ext.cell (a := ((w.alloc (.cells #[.int .i64 24, .int .i64 (-149), .int .i64 104, .int .i64 23] 31)).alloc (.cells #[.int .i64 k, .bool neg, .int .u64 m, .int .i64 x] 25))) (Ext.trans HE inferInstance) B0.out, Ext.cell (a := ((w.alloc (.cells #[.int .i64 24, .int .i64 (-149), .int .i64 104, .int .i64 23] 31)).alloc (.cells #[.int .i64 k, .bool neg, .int .u64 m, .int .i64 x] 25))) (Ext.trans HE inferInstance) B1.out, Ext.cell (a := ((w.alloc (.cells #[.int .i64 24, .int .i64 (-149), .int .i64 104, .int .i64 23] 31)).alloc (.cells #[.int .i64 k, .bool neg, .int .u64 m, .int .i64 x] 25))) (Ext.trans HE inferInstance) B2.out, Ext.cell (a := ((w.alloc (.cells #[.int .i64 24, .int .i64 (-149), .int .i64 104, .int .i64 23] 31)).alloc (.cells #[.int .i64 k, .bool neg, .int .u64 m, .int .i64 x] 25))) (Ext.trans HE inferInstance) B3.out⟩ | go_keep) (first | (go_at_call 10; refine use (hsp _) ?_; rintro e w1 ⟨rfl, hs1⟩))
            go_wp2
            go_ret2
            exact ⟨rfl, Step.of⟩
        · go_region_held3 (fun w' => w'.cell? ⟨w.heap.size, 0, none⟩ = some (.int .i64 24) ∧ w'.cell? ⟨w.heap.size, 1, none⟩ = some (.int .i64 (-149)) ∧ w'.cell? ⟨w.heap.size, 2, none⟩ = some (.int .i64 104) ∧ w'.cell? ⟨w.heap.size, 3, none⟩ = some (.int .i64 23) ∧ w'.cell? ⟨w.heap.size + 1, 0, none⟩ = some (.int .i64 k) ∧ w'.cell? ⟨w.heap.size + 1, 1, none⟩ = some (.bool neg) ∧ w'.cell? ⟨w.heap.size + 1, 2, none⟩ = some (.int .u64 m) ∧ w'.cell? ⟨w.heap.size + 1, 3, none⟩ = some (.int .i64 x)) (first | exact ⟨Ext.cell (a := ((w.alloc (.cells #[.int .i64 24, .int .i64 (-149), .int .i64 104, .int .i64 23] 31)).alloc (.cells #[.int .i64 k, .bool neg, .int .u64 m, .int .i64 x] 25))) (Ext.trans HE inferInstance) A0.out, Ext.cell (a := ((w.alloc (.cells #[.int .i64 24, .int .i64 (-149), .int .i64 104, .int .i64 23] 31)).alloc (.cells #[.int .i64 k, .bool neg, .int .u64 m, .int .i64 x] 25))) (Ext.trans HE inferInstance) A1.out, Ext.cell (a := ((w.alloc (.cells #[.int .i64 24, .int .i64 (-149), .int .i64 104, .int .i64 23] 31)).alloc (.cells #[.int .i64 k, .bool neg, .int .u64 m, .int .i64 x] 25))) (Ext.trans HE inferInstance) A2.out, Ext.cell (a := ((w.alloc (.cells #[.int .i64 24, .int .i64 (-149), .int .i64 104, .int .i64 23] 31)).alloc (.cells #[.int .i64 k, .bool neg, .int .u64 m, .int .i64 x] 25))) (Ext.trans HE inferInstance) A3.out, Ext.cell (a := ((w.alloc (.cells #[.int .i64 24, .int .i64 (-149), .int .i64 104, .int .i64 23] 31)).alloc (.cells #[.int .i64 k, .bool neg, .int .u64 m, .int .i64 x] 25))) (Ext.trans HE inferInstance) B0.out, Ext.cell (a := ((w.alloc (.cells #[.int .i64 24, .int .i64 (-149), .int .i64 104, .int .i64 23] 31)).alloc (.cells #[.int .i64 k, .bool neg, .int .u64 m, .int .i64 x] 25))) (Ext.trans HE inferInstance) B1.out, Ext.cell (a := ((w.alloc (.cells #[.int .i64 24, .int .i64 (-149), .int .i64 104, .int .i64 23] 31)).alloc (.cells #[.int .i64 k, .bool neg, .int .u64 m, .int .i64 x] 25))) (Ext.trans HE inferInstance) B2.out, Ext.cell (a := ((w.alloc (.cells #[.int .i64 24, .int .i64 (-149), .int .i64 104, .int .i64 23] 31)).alloc (.cells #[.int .i64 k, .bool neg, .int .u64 m, .int .i64 x] 25))) (Ext.trans HE inferInstance) B3.out⟩ | go_keep) (first | (go_at_call 10; refine use (hsp _) ?_; rintro e w1 ⟨rfl, hs1⟩))
          go_wp2
          go_ret2
          exact ⟨rfl, Step.of⟩
      · go_region_held3 (fun w' => w'.cell? ⟨w.heap.size, 0, none⟩ = some (.int .i64 24) ∧ w'.cell? ⟨w.heap.size, 1, none⟩ = some (.int .i64 (-149)) ∧ w'.cell? ⟨w.heap.size, 2, none⟩ = some (.int .i64 104) ∧ w'.cell? ⟨w.heap.size, 3, none⟩ = some (.int .i64 23) ∧ w'.cell? ⟨w.heap.size + 1, 0, none⟩ = some (.int .i64 k) ∧ w'.cell? ⟨w.heap.size + 1, 1, none⟩ = some (.bool neg) ∧ w'.cell? ⟨w.heap.size + 1, 2, none⟩ = some (.int .u64 m) ∧ w'.cell? ⟨w.heap.size + 1, 3, none⟩ = some (.int .i64 x)) (first | exact ⟨Ext.cell (a := ((w.alloc (.cells #[.int .i64 24, .int .i64 (-149), .int .i64 104, .int .i64 23] 31)).alloc (.cells #[.int .i64 k, .bool neg, .int .u64 m, .int .i64 x] 25))) (Ext.trans HE inferInstance) A0.out, Ext.cell (a := ((w.alloc (.cells #[.int .i64 24, .int .i64 (-149), .int .i64 104, .int .i64 23] 31)).alloc (.cells #[.int .i64 k, .bool neg, .int .u64 m, .int .i64 x] 25))) (Ext.trans HE inferInstance) A1.out, Ext.cell (a := ((w.alloc (.cells #[.int .i64 24, .int .i64 (-149), .int .i64 104, .int .i64 23] 31)).alloc (.cells #[.int .i64 k, .bool neg, .int .u64 m, .int .i64 x] 25))) (Ext.trans HE inferInstance) A2.out, Ext.cell (a := ((w.alloc (.cells #[.int .i64 24, .int .i64 (-149), .int .i64 104, .int .i64 23] 31)).alloc (.cells #[.int .i64 k, .bool neg, .int .u64 m, .int .i64 x] 25))) (Ext.trans HE inferInstance) A3.out, Ext.cell (a := ((w.alloc (.cells #[.int .i64 24, .int .i64 (-149), .int .i64 104, .int .i64 23] 31)).alloc (.cells #[.int .i64 k, .bool neg, .int .u64 m, .int .i64 x] 25))) (Ext.trans HE inferInstance) B0.out, Ext.cell (a := ((w.alloc (.cells #[.int .i64 24, .int .i64 (-149), .int .i64 104, .int .i64 23] 31)).alloc (.cells #[.int .i64 k, .bool neg, .int .u64 m, .int .i64 x] 25))) (Ext.trans HE inferInstance) B1.out, Ext.cell (a := ((w.alloc (.cells #[.int .i64 24, .int .i64 (-149), .int .i64 104, .int .i64 23] 31)).alloc (.cells #[.int .i64 k, .bool neg, .int .u64 m, .int .i64 x] 25))) (Ext.trans HE inferInstance) B2.out, Ext.cell (a := ((w.alloc (.cells #[.int .i64 24, .int .i64 (-149), .int .i64 104, .int .i64 23] 31)).alloc (.cells #[.int .i64 k, .bool neg, .int .u64 m, .int .i64 x] 25))) (Ext.trans HE inferInstance) B3.out⟩ | go_keep) (first | (go_at_call 10; refine use (hsp _) ?_; rintro e w1 ⟨rfl, hs1⟩))
        go_wp2
        go_ret2
        exact ⟨rfl, Step.of⟩
end Tt
