/- ValueFlows: the law. -/
import Derived.Test.YtjjnhmcoodahgaaVfF
import Derived.Deep.RegionHeld3
namespace Tt
open Go Go.RowKit Go.Proofs
set_option linter.unusedSimpArgs false
set_option linter.unusedVariables false
set_option maxRecDepth 100000
attribute [local go_sem] max2_int min2_int max_two min_two

/-- A row of pairs of one's own that is not empty: its block. -/
theorem own2_blk {w : World} {base : Nat} {e : TypeId} {A : Option Addr} {c n : Nat} {xs : List Int} (h : w.ownsRow base e 2 (.slice A n c) n (nums .i64 xs)) (hp : 0 < n) :
    ∃ g sp, A = some ⟨g, 0, none⟩ ∧ base ≤ g ∧ g < w.heap.size ∧ BlkI' w g e .i64 xs sp := by
  rcases h.2 with ⟨_, h0⟩ | ⟨g, cap, cur, hv, hb, hg, h1, h2, h3, h4⟩
  · omega
  · injection hv with hA _ _
    refine ⟨g, cur.toList.drop (n * 2), hA, hb, (Array.getElem?_eq_some_iff.1 hg).1, ?_⟩
    show w.heap[g]? = _
    rw [hg, ← h4, List.take_append_drop]
set_option maxHeartbeats 4000000 in
theorem vf_walk (K W T S k : Int) (L : List Int) (n : Nat) (g c : Int) (hL : L.length = 2 * n) (w : World)
    (hf : ∀ w, Calls Try.prog 7 #[ben K W T S, .int .i64 k] w (RetFlows w L n g)) (hr : ∀ w, Calls Try.prog 8 #[ben K W T S, .int .i64 k] w (RetFlows w L n g))
    (h1 : ∀ w, Calls Try.prog 9 #[ben K W T S] w (RetInt w c)) (h2 : ∀ w, Calls Try.prog 10 #[ben K W T S] w (RetInt w c)) (hn : n ≤ 1000) :
    Calls Try.prog 3 #[ben K W T S, .int .i64 k] w (RetBool w true) := by
  unfold ben at hf hr h1 h2 ⊢
  have HF := Lib.hid hf; clear hf
  have HR := Lib.hid hr; clear hr
  have H1 := Lib.hid h1; clear h1
  have H2 := Lib.hid h2; clear h2
  have hu := Try.underlying23
  have huf := Try.underlying34
  go_enter Try.func3, Try.ntmps3
  go_upto_region 6 with (first | (go_at_call 6; refine use (vnames_calls _) ?_; rintro e w0 ⟨rfl, rfl⟩) | (go_at_call 8; refine use (HR.out _) ?_; rintro e w3 ⟨v3, rfl, O3, hs3⟩; have c0 : w3.cell? ⟨w.heap.size, 0, none⟩ = some (.int .i64 K) := cell_keep (h := hs3) c0; have c1 : w3.cell? ⟨w.heap.size, 1, none⟩ = some (.int .i64 W) := cell_keep (h := hs3) c1; have c2 : w3.cell? ⟨w.heap.size, 2, none⟩ = some (.int .i64 T) := cell_keep (h := hs3) c2; have c3 : w3.cell? ⟨w.heap.size, 3, none⟩ = some (.int .i64 S) := cell_keep (h := hs3) c3) | (go_at_call 7; refine use (HF.out _) ?_; rintro e w1 ⟨v1, rfl, O1, hs1⟩; have c0 : w1.cell? ⟨w.heap.size, 0, none⟩ = some (.int .i64 K) := box_keep (w := w) (w1 := w1) (cs := #[.int .i64 K, .int .i64 W, .int .i64 T, .int .i64 S]) 0 rfl; have c1 : w1.cell? ⟨w.heap.size, 1, none⟩ = some (.int .i64 W) := box_keep (w := w) (w1 := w1) (cs := #[.int .i64 K, .int .i64 W, .int .i64 T, .int .i64 S]) 1 rfl; have c2 : w1.cell? ⟨w.heap.size, 2, none⟩ = some (.int .i64 T) := box_keep (w := w) (w1 := w1) (cs := #[.int .i64 K, .int .i64 W, .int .i64 T, .int .i64 S]) 2 rfl; have c3 : w1.cell? ⟨w.heap.size, 3, none⟩ = some (.int .i64 S) := box_keep (w := w) (w1 := w1) (cs := #[.int .i64 K, .int .i64 W, .int .i64 T, .int .i64 S]) 3 rfl) | (go_at_call 7; refine use (HF.out _) ?_; rintro e w2 ⟨v2, rfl, O2, hs2⟩; have c0 : w2.cell? ⟨w.heap.size, 0, none⟩ = some (.int .i64 K) := cell_keep (h := hs2) c0; have c1 : w2.cell? ⟨w.heap.size, 1, none⟩ = some (.int .i64 W) := cell_keep (h := hs2) c1; have c2 : w2.cell? ⟨w.heap.size, 2, none⟩ = some (.int .i64 T) := cell_keep (h := hs2) c2; have c3 : w2.cell? ⟨w.heap.size, 3, none⟩ = some (.int .i64 S) := cell_keep (h := hs2) c3))
  obtain ⟨A1, k1, rfl, hk1, hk1'⟩ := own_slice O1
  obtain ⟨A2, k2, rfl, hk2, hk2'⟩ := own_slice O2
  obtain ⟨A3, k3, rfl, hk3, hk3'⟩ := own_slice O3
  go_region_held3 (fun w' => w'.cell? ⟨w.heap.size, 0, none⟩ = some (.int .i64 K) ∧ w'.cell? ⟨w.heap.size, 1, none⟩ = some (.int .i64 W) ∧ w'.cell? ⟨w.heap.size, 2, none⟩ = some (.int .i64 T) ∧ w'.cell? ⟨w.heap.size, 3, none⟩ = some (.int .i64 S)) (first | go_keep | exact ⟨Ext.cell (a := w3) inferInstance c0, Ext.cell (a := w3) inferInstance c1, Ext.cell (a := w3) inferInstance c2, Ext.cell (a := w3) inferInstance c3⟩) (first | (go_at_call 9; refine use (H1.out _) ?_; rintro e w4 ⟨rfl, hs4⟩) | (go_at_call 10; refine use (H2.out _) ?_; rintro e w5 ⟨rfl, hs5⟩))
  have HE5 : Ext w w5 := Ext.trans (b := w1) inferInstance inferInstance
  by_cases hn0 : n = 0
  · subst hn0
    go_wp2
    go_loopw [11] (fun v11 wr => v11 = .int .i64 0 ∧ Ext w wr) (fun _ _ => 0)
    case atStart => exact ⟨rfl, HE5⟩
    case round =>
      obtain ⟨rfl, hE⟩ := hrel
      go_wp2
      go_loopw [12] (fun v12 wr => v12 = .int .i64 0 ∧ Ext w wr) (fun _ _ => 0)
      case atStart => exact ⟨rfl, hE⟩
      case round =>
        obtain ⟨rfl, hE⟩ := hrel
        go_wp2
        go_ret
        exact ⟨rfl, Step.of⟩
  obtain ⟨g1, sp1, rfl, hg1, hl1, B1⟩ := own2_blk O1 (by omega)
  obtain ⟨g2, sp2, rfl, hg2, hl2, B2⟩ := own2_blk O2 (by omega)
  obtain ⟨g3, sp3, rfl, hg3, hl3, B3⟩ := own2_blk O3 (by omega)
  have B1' := B1.ext (b := w5)
  have B2' := B2.ext (b := w5)
  have B3' := B3.ext (b := w5)
  clear O1 O2 O3 B1 B2 B3
  go_wp2
  go_loopw [11] (fun v11 wr => ∃ (i : Nat) (l1 : List Int), v11 = .int .i64 i ∧ i ≤ n ∧ l1.length = 2 * n ∧ (∀ j, 2 * i ≤ j → rd l1 j = rd L j) ∧ BlkI' wr g1 34 .i64 l1 sp1 ∧ BlkI' wr g2 34 .i64 L sp2 ∧ BlkI' wr g3 34 .i64 L sp3 ∧ Ext w wr) (fun v _ => n - (intOf v).toNat)
  case atStart => exact ⟨0, L, rfl, by omega, hL, fun _ _ => rfl, B1', B2', B3', HE5⟩
  case round =>
    obtain ⟨i, l1, rfl, hi, hl, hsame, B1, B2, B3, hE⟩ := hrel
    by_cases hq : i < n
    · have a0 : wr.cell? ⟨g1, i * 2, none⟩ = some (.int .i64 (rd L (i * 2))) := by rw [B1.cell (by omega), hsame _ (by omega)]
      have a1 : wr.cell? ⟨g1, i * 2 + 1, none⟩ = some (.int .i64 (rd L (i * 2 + 1))) := by rw [B1.cell (by omega), hsame _ (by omega)]
      have b0 : wr.cell? ⟨g3, i * 2, none⟩ = some (.int .i64 (rd L (i * 2))) := B3.cell (by omega)
      have b1 : wr.cell? ⟨g3, i * 2 + 1, none⟩ = some (.int .i64 (rd L (i * 2 + 1))) := B3.cell (by omega)
      have f1 := B1.frozen (i * 2)
      go_wp2_with fail
      go_quiet (fail)
      go_wp2
      refine ⟨⟨i + 1, l1.set (i * 2) (-7), by simp, by omega, by simp [hl], fun j hj => ?_, BlkI'.set (BlkI'.drewN B1 _) (by omega) _, Blk.far (BlkI'.drewN B2 _) (by show g2 ≠ g1; omega) _, Blk.far (BlkI'.drewN B3 _) (by show g3 ≠ g1; omega) _, ?_⟩, by simp [intOf]; omega⟩
      · rw [rd_set_ne _ _ _ _ (by omega)]
        exact hsame j (by omega)
      · have : Fresh w g1 := ⟨by have h := hg1; simp at h; omega⟩
        infer_instance
    · clear B1 hsame hl
      go_wp2
      go_loopw [12] (fun v12 wr => ∃ (i : Nat), v12 = .int .i64 i ∧ i ≤ n ∧ BlkI' wr g2 34 .i64 L sp2 ∧ BlkI' wr g3 34 .i64 L sp3 ∧ Ext w wr) (fun v _ => n - (intOf v).toNat)
      case atStart => exact ⟨0, rfl, by omega, B2, B3, hE⟩
      case round =>
        obtain ⟨i2, rfl, hi2, B2, B3, hE⟩ := hrel
        by_cases hq2 : i2 < n
        · have a0 : wr.cell? ⟨g2, i2 * 2, none⟩ = some (.int .i64 (rd L (i2 * 2))) := B2.cell (by omega)
          have a1 : wr.cell? ⟨g2, i2 * 2 + 1, none⟩ = some (.int .i64 (rd L (i2 * 2 + 1))) := B2.cell (by omega)
          have b0 : wr.cell? ⟨g3, i2 * 2, none⟩ = some (.int .i64 (rd L (i2 * 2))) := B3.cell (by omega)
          have b1 : wr.cell? ⟨g3, i2 * 2 + 1, none⟩ = some (.int .i64 (rd L (i2 * 2 + 1))) := B3.cell (by omega)
          go_wp2_with fail
          go_quiet (fail)
          go_wp2
          exact ⟨⟨i2 + 1, by simp, by omega, BlkI'.drewN B2 _, BlkI'.drewN B3 _, inferInstance⟩, by simp [intOf]; omega⟩
        · go_wp2
          go_ret
          exact ⟨rfl, Step.of⟩

/-- THE WALK: for every benefit and year. -/
theorem vf_calls (K W T S k : Int) (w : World) : Calls Try.prog 3 #[ben K W T S, .int .i64 k] w (RetBool w true) := by
  rcases Bool.eq_false_or_eq_true (badB K W T S) with hb | hb
  · exact vf_walk K W T S k [] 0 130 130 rfl w (fun w => flows_bad K W T S k w hb) (fun w => rflows_bad K W T S k w hb) (fun w => vcheck_calls K W T S w 130 (by rw [hb]; rfl)) (fun w => rcheck_calls K W T S w 130 (by rw [hb]; rfl)) (by omega)
  have h1 := fun w => vcheck_calls K W T S w 0 (by rw [hb]; rfl)
  have h2 := fun w => rcheck_calls K W T S w 0 (by rw [hb]; rfl)
  by_cases hk : 0 ≤ k ∧ k ≤ 130
  · obtain ⟨_, hW, hT, _, _⟩ := badB_false hb
    refine vf_walk K W T S k _ (cnt (paysN K W T S k) (W + T + 1).toNat) 0 0 (fl_length (paysN K W T S k) _) w (fun w => ?_) (fun w => rflows_calls K W T S k w hb hk) h1 h2 ?_
    · rcases (by omega : k + 1 ≤ W + T ∨ W + T ≤ k + 1) with h | h
      · exact flows_a K W T S k w hb hk h
      · exact flows_b K W T S k w hb hk h
    · have := cnt_le (paysN K W T S k) (W + T + 1).toNat
      omega
  · exact vf_walk K W T S k [] 0 1 0 rfl w (fun w => flows_far K W T S k w hb (by omega)) (fun w => rflows_far K W T S k w hb (by omega)) h1 h2 (by omega)
end Tt
