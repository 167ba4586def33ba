/- tontinebase's numbers of any size: DivMod, of a divisor of two limbs or more. -/
import Derived.Test.YtjjnhmcoodahgaaDoorBsE
import Derived.KernelRfl
import Derived.RowKit3
import Derived.Deep.LoopGhost
import Derived.Deep.DeepCutAuto
import Derived.Deep.CutBlock
import Derived.Deep.QuietTactic
import Derived.BigQuiet
import Derived.WideLaws
import Derived.Outline
import Derived.Lib.Hide
import Derived.WalkLawsBesides
import Derived.WalkSpells
namespace Tt
open Go Go.RowKit Go.Proofs
set_option linter.unusedSimpArgs false
set_option linter.unusedVariables false
set_option maxRecDepth 100000
attribute [local go_sem] max2_int min2_int max_two min_two

/-- The shift that makes the highest limb at least half. -/
def ShInv (t : Int) (k : Nat) : Prop := t * 2 ^ k < 1073741824 ∧ k ≤ 29
theorem ShInv.step {t : Int} {k : Nat} (h : ShInv t k) (ht : 0 < t) (hl : t * 2 ^ k < 536870912) : ShInv t (k + 1) := by
  have p := pow_pos' (by omega : (0 : Int) < 2) k
  refine ⟨by rw [Int.pow_succ]; have e : t * (2 ^ k * 2) = t * 2 ^ k * 2 := by grind
             omega, ?_⟩
  have h1 : 1 * (2 : Int) ^ k ≤ t * 2 ^ k := Int.mul_le_mul_of_nonneg_right (by omega) (by omega)
  rcases Nat.lt_or_ge k 29 with q | q
  · omega
  · have : (2 : Int) ^ 29 ≤ 2 ^ k := pow_le_pow (by omega) q
    have : (2 : Int) ^ 29 = 536870912 := by rfl
    omega

theorem two_pow_cast (k : Nat) : ((2 ^ k : Nat) : Int) = 2 ^ k := by simp
theorem sh_facts {l2 : List Int} {m N k : Nat} (r2 : Rng 1073741824 l2) (hN : l2.length = N + 2) (v2 : val 1073741824 l2 = m) (hk : ShInv (rd l2 (l2.length - 1)) k) (h : 536870912 ≤ rd l2 (l2.length - 1) * 2 ^ k) :
    (1073741824 : Int) ^ (N + 1) * 536870912 ≤ (m * 2 ^ (k : Int).toNat : Nat) ∧ ((m * 2 ^ (k : Int).toNat : Nat) : Int) < 1073741824 ^ (N + 1 + 1) := by
  have e := val_top 1073741824 l2 (N + 1) hN
  rw [hN, show N + 2 - 1 = N + 1 by omega] at hk h
  have a := val_nonneg (by omega : (0 : Int) < 1073741824) (r2.take (N + 1))
  have b := val_lt (by omega : (0 : Int) < 1073741824) (r2.take (N + 1))
  rw [List.length_take, Nat.min_eq_left (by omega)] at b
  rw [Int.natCast_mul, Int.toNat_natCast, two_pow_cast, ← v2, e, Int.pow_succ 1073741824 (N + 1)]
  have p := pow_pos' (by omega : (0 : Int) < 1073741824) (N + 1)
  have p2 := pow_pos' (by omega : (0 : Int) < 2) k
  have h1 := hk.1
  have h2 : (rd l2 (N + 1) + 1) * 2 ^ k ≤ 1073741824 := by
    have e3 : (1073741824 : Int) = 2 ^ (30 - k) * 2 ^ k := by
      rw [← Int.pow_add, Nat.sub_add_cancel (by have := hk.2; omega)]; rfl
    rw [e3] at h1 ⊢
    have := Int.lt_of_mul_lt_mul_right h1 (by omega)
    exact Int.mul_le_mul_of_nonneg_right (by omega) (by omega)
  generalize (1073741824 : Int) ^ (N + 1) = B at *
  generalize rd l2 (N + 1) = t at *
  generalize val 1073741824 (l2.take (N + 1)) = L at *
  generalize (2 : Int) ^ k = P at *
  have e2 : (L + B * t) * P = L * P + B * (t * P) := by grind
  have a2 : 0 ≤ L * P := Int.mul_nonneg a (by omega)
  have c1 : B * 536870912 ≤ B * (t * P) := Int.mul_le_mul_of_nonneg_left h (by omega)
  refine ⟨by omega, ?_⟩
  have d1 : (L + 1) * P ≤ B * P := Int.mul_le_mul_of_nonneg_right (by omega) (by omega)
  have d2 : B * ((t + 1) * P) ≤ B * 1073741824 := Int.mul_le_mul_of_nonneg_left h2 (by omega)
  have e4 : (L + 1) * P = L * P + P := by grind
  have e5 : B * ((t + 1) * P) = B * (t * P) + B * P := by grind
  omega

theorem sh_num {l1 : List Int} {n : Nat} (r1 : Rng 1073741824 l1) (v1 : val 1073741824 l1 = n) (k : Nat) : ((n * 2 ^ (k : Int).toNat : Nat) : Int) < 1073741824 ^ l1.length * 2 ^ k := by
  rw [Int.natCast_mul, Int.toNat_natCast, two_pow_cast, ← v1]
  exact Int.mul_lt_mul_of_pos_right (val_lt (by omega) r1) (pow_pos' (by omega) k)

theorem la_len {la l1 : List Int} {n k : Nat} (ra : Rng 1073741824 la) (ta : Top la) (va : val 1073741824 la = (n * 2 ^ (k : Int).toNat : Nat)) (h : ((n * 2 ^ (k : Int).toNat : Nat) : Int) < 1073741824 ^ l1.length * 2 ^ k) (hk : k ≤ 29) : la.length ≤ l1.length + 1 := by
  rcases Nat.lt_or_ge (l1.length + 1) la.length with q | q
  · exfalso
    have a := val_ge (by omega) ra ta (by intro e; rw [e] at q; simp at q)
    have b : (1073741824 : Int) ^ (l1.length + 1) ≤ 1073741824 ^ (la.length - 1) := pow_le_pow (by omega) (by omega)
    rw [Int.pow_succ] at b
    have c : (2 : Int) ^ k ≤ 2 ^ 29 := pow_le_pow (by omega) hk
    have d : (1073741824 : Int) ^ l1.length * 2 ^ k ≤ 1073741824 ^ l1.length * 2 ^ 29 := Int.mul_le_mul_of_nonneg_left c (Int.le_of_lt (pow_pos' (by omega) _))
    have f : (2 : Int) ^ 29 = 536870912 := rfl
    rw [f] at d
    omega
  · exact q

theorem la_num {xs l1 lv : List Int} {n m k N : Nat} (va : val 1073741824 xs = (n * 2 ^ (k : Int).toNat : Nat)) (h : ((n * 2 ^ (k : Int).toNat : Nat) : Int) < 1073741824 ^ l1.length * 2 ^ k) (hk : k ≤ 29) (hx : xs.length = l1.length + 1) (rx : Rng 1073741824 xs)
    (hv : lv.length = N + 2) (vv : val 1073741824 lv = (m * 2 ^ (k : Int).toNat : Nat)) (hs : (1073741824 : Int) ^ (N + 1) * 536870912 ≤ (m * 2 ^ (k : Int).toNat : Nat)) (hm : m * 2 ^ (k : Int).toNat ≤ n * 2 ^ (k : Int).toNat) :
    N + 2 ≤ l1.length + 1 ∧ val 1073741824 (xs.drop (xs.length - lv.length)) < val 1073741824 lv := by
  have c : (2 : Int) ^ k ≤ 2 ^ 29 := pow_le_pow (by omega) hk
  have f : (2 : Int) ^ 29 = 536870912 := rfl
  exact first_rest (H := 536870912) (by omega) (by omega) rx hx hv (by rw [vv]; exact hs) (by omega : (2 : Int) ^ k ≤ 536870912) (by rw [va]; exact h) (by rw [va, vv]; exact_mod_cast hm)

theorem div_fin {n m k : Nat} {xs lv u q : List Int} (h : 0 ≤ val 1073741824 u ∧ val 1073741824 u < val 1073741824 lv ∧ val 1073741824 q = val 1073741824 xs / val 1073741824 lv ∧ val 1073741824 u = val 1073741824 xs % val 1073741824 lv)
    (vx : val 1073741824 xs = (n * 2 ^ (k : Int).toNat : Nat)) (vv : val 1073741824 lv = (m * 2 ^ (k : Int).toNat : Nat)) : val 1073741824 q = (n / m : Nat) ∧ val 1073741824 u = (n % m * 2 ^ (k : Int).toNat : Nat) := by
  obtain ⟨_, _, h1, h2⟩ := h
  have p := Nat.two_pow_pos (k : Int).toNat
  rw [h1, h2, vx, vv, ← Int.natCast_ediv, ← Int.natCast_emod, Nat.mul_div_mul_right _ _ p, Nat.mul_mod_mul_right]
  exact ⟨rfl, rfl⟩
theorem rem_bl {n m k : Nat} (hn : bl n ≤ 549755813888) (hk : k ≤ 29) : bl (n % m * 2 ^ (k : Int).toNat) ≤ 1099511627776 := by
  have h1 := bl_mul (n % m) (2 ^ (k : Int).toNat)
  have h2 := bl_mono (Nat.mod_le n m)
  have h3 : bl (2 ^ (k : Int).toNat) ≤ 30 := by rw [bl_le]; exact Nat.pow_lt_pow_right (by omega) (by omega)
  omega

set_option maxHeartbeats 4000000 in
theorem div_main (A1 A2 : Option Addr) (c1 c2 : Nat) (l1 l2 : List Int) (n m N : Nat) (w : World) (h1 : Ints w .i64 A1 l1) (h2 : Ints w .i64 A2 l2) (ha : IsNat w (.slice A1 l1.length c1) n) (hb : IsNat w (.slice A2 l2.length c2) m)
    (r1 : Rng 1073741824 l1) (r2 : Rng 1073741824 l2) (t1 : Top l1) (t2 : Top l2) (v1 : val 1073741824 l1 = n) (v2 : val 1073741824 l2 = m) (hN : l2.length = N + 2) (hn : bl n ≤ 549755813888) (h : m ≤ n) :
    Calls Tryd.prog 69 #[.slice A1 l1.length c1, .slice A2 l2.length c2] w (RetNat2 w (n / m) (n % m)) := by
  have hm : bl m ≤ 549755813888 := Nat.le_trans (bl_mono h) hn
  have hc := nat_cmp _ _ n m w ha hb (by omega) (by omega)
  have hc0 : 0 ≤ cmpN n m := by unfold cmpN; rw [if_neg (by omega)]; split <;> omega
  have HC := Lib.hid hc; clear hc
  have f1 : ((l2.length : Int) == 1) = false := beq_f (by omega)
  obtain ⟨ad, rfl, x2⟩ := h2 (l2.length - 1) (by omega)
  have ht := r2.all (by omega) (l2.length - 1)
  have ht0 : 0 < rd l2 (l2.length - 1) := by
    have := t2 (by intro e; rw [e] at hN; simp at hN)
    omega
  have hl1 := IsNat.len r1 t1 v1
  have hl2 := IsNat.len r2 t2 v2
  have hp : 2 ≤ l2.length := by omega
  have V1 := Lib.hid v1; have V2 := Lib.hid v2; have HN := Lib.hid hN
  clear v1 v2 hN
  go_enter Tryd.func69, Tryd.ntmps69
  go_wp2_with fail
  refine HC.out.mono ?_
  rintro e w1 ⟨rfl, hs⟩
  have x3 := (inferInstance : Ext w w1).cell x2
  go_wp2_with fail
  go_loop [8] (fun v8 => ∃ k : Nat, v8 = .int .i64 k ∧ ShInv (rd l2 (l2.length - 1)) k) (fun v => 30 - (intOf v).toNat)
  case atStart => exact ⟨0, rfl, by simp; omega, by omega⟩
  case round =>
    obtain ⟨k, rfl, HK⟩ := hrel
    have k0 := HK.2
    have k1 := HK.1
    have kp : 0 ≤ rd l2 (l2.length - 1) * 2 ^ k := Int.mul_nonneg (by omega) (Int.le_of_lt (pow_pos' (by omega) k))
    by_cases hk : rd l2 (l2.length - 1) * 2 ^ k < 536870912
    · go_wp2
      exact ⟨⟨k + 1, by go_num, HK.step ht0 hk⟩, by simp [intOf] <;> omega⟩
    · have S := sh_facts r2 HN.out V2.out HK (by omega)
      have hmn : m ≤ n := h
      have A := sh_num r1 V1.out k
      have HS := Lib.hid S; have HA := Lib.hid A
      clear S A
      go_wp2_with fail
      refine use (nat_shl _ m _ _ hb.up (by omega) (by omega) (by omega)) ?_
      rintro e w2 ⟨vv, rfl, hvv, hs2⟩
      obtain ⟨Av, cv, lv, rfl, hcv, hcvm, hiv, rv, tv, valv⟩ := hvv
      have T := top_of (by omega) rv tv (n := N + 1) (H := 536870912) (by rw [valv]; exact HS.out.1) (by omega) (by rw [valv]; exact HS.out.2)
      have HT := Lib.hid T; have VV := Lib.hid valv; clear T valv
      have hlv : lv.length ≤ 1099511627776 := by rw [HT.out.1, ← HN.out]; omega
      have hlvp : 2 ≤ lv.length := by rw [HT.out.1]; omega
      have : Ext w w2 := inferInstance
      go_wp2_with fail
      refine use (nat_shl _ n _ _ ha.up (by omega) (by omega) (by omega)) ?_
      rintro e w3 ⟨va, rfl, hva, hs3⟩
      obtain ⟨Aa, ca, la, rfl, hca, hcam, hia, ra, ta, vala⟩ := hva
      have hla : 0 < la.length := by
        rcases Nat.eq_zero_or_pos la.length with q | q
        · exfalso
          have : la = [] := List.eq_nil_of_length_eq_zero q
          rw [this] at vala
          have h0 := HS.out.1
          have h2 := pow_pos' (by omega : (0 : Int) < 1073741824) (N + 1)
          have h3 : (0 : Int) < (m * 2 ^ (k : Int).toNat : Nat) := by omega
          have h4 : m * 2 ^ (k : Int).toNat ≤ n * 2 ^ (k : Int).toNat := Nat.mul_le_mul_right _ hmn
          simp only [val_nil] at vala
          omega
        · exact q
      obtain ⟨ada, rfl, hia'⟩ := hia.addr hla
      have hla1 : la.length ≤ l1.length + 1 := la_len ra ta vala HA.out HK.2
      have VA := Lib.hid vala; clear vala
      have hlaa : la.length ≤ 1099511627776 := by omega
      go_wp2_with ((with_reducible refine gate (N := 57) rfl ?_); refine app_ints (w0 := w2) w2.heap.size (.tmp 53) (.tmp 56) _ _ _ .i64 8 rfl rfl Tryd.underlying85 Tryd.underlying86 info_int (by omega) _ [] la _ _ _ rfl rfl rfl hia' (own_ext (own_empty _ _ _ _ (Nat.le_refl _))) inferInstance (by have := hs3.out.size; simp at this; omega) (Nat.le_refl _) (by simp; omega) ?_; intro v1 w4 HO1 HE1 _ _; rw [List.nil_append] at HO1)
      have hm2 : (m * 2 ^ (k : Int).toNat : Nat) ≤ n * 2 ^ (k : Int).toNat := Nat.mul_le_mul_right _ h
      go_loopw [10] (fun v10 wr => ∃ xs : List Int, wr.ownsRow w2.heap.size 3 1 v10 xs.length (nums .i64 xs) ∧ xs.length ≤ l1.length + 1 ∧ Rng 1073741824 xs ∧ val 1073741824 xs = (n * 2 ^ (k : Int).toNat : Nat) ∧ Ext w2 wr) (fun v _ => match v with | .slice _ y _ => l1.length + 1 - y | _ => 0)
      case atStart => exact ⟨la, HO1, hla1, ra, VA.out, inferInstance⟩
      case round =>
        obtain ⟨xs, HO, hxl, rx, hvx, hE⟩ := hrel
        have VX := Lib.hid hvx; clear hvx
        obtain ⟨Ax, cx, rfl, hcx, hcxm⟩ := own_slice HO
        by_cases hq : xs.length < l1.length + 1
        · go_wp2_with (at_builtin; refine app_one (w0 := w2) w2.heap.size (.tmp 64) (.tmp 65) _ _ (.int .i64 0) 1 8 rfl rfl Tryd.underlying85 info_int rfl (by omega) (by omega) _ xs.length (nums .i64 xs) (nums .i64 [0]) rfl rfl rfl one_nums HO ?_ hE.out.size (Nat.le_refl _) (by omega) ?_; (exact hE); intro v1 w1 HO1 HE1 _ _; obtain ⟨Ay, cy, rfl, hcy, hcym⟩ := own_slice HO1)
          refine ⟨⟨xs ++ [0], ?_, ?_, rx.append (Rng.cons (by omega) (by omega) (Rng.nil _)), ?_, HE1⟩, by show l1.length + 1 - (xs.length + 1) < l1.length + 1 - xs.length; omega⟩
          · simpa [nums] using HO1
          · simp; omega
          · rw [val_append, ← VX.out]; simp
        · obtain hxe : xs.length = l1.length + 1 := by omega
          obtain ⟨gu, cu, hsu, hgu, hcu, hcum, spu, HU⟩ := own_blk HO (by omega)
          injection hsu with hs1 hs2 hs3
          subst hs1 hs3
          clear hs2 HO hxl
          have hnl := la_num VX.out HA.out HK.2 hxe rx HT.out.1 VV.out HS.out.1 hm2
          have HNL := Lib.hid hnl; clear hnl
          have hL1 : lv.length ≤ xs.length := by rw [HT.out.1, hxe]; exact HNL.out.1
          have hmk := make_ints (P := Tryd.prog) 85 3 .i64 8 Tryd.underlying85 info_int (by omega) ((xs.length : Int) - (lv.length : Int)) (xs.length - lv.length) (by omega) (by omega)
          have KI := KInv.zero (by omega) (L := xs.length) rfl rx HNL.out.2
          obtain ⟨gq, hgqe⟩ : ∃ gq, gq = wr.heap.size := ⟨_, rfl⟩
          have hgq : gu ≠ gq := by have := Blk.lt HU; omega
          have hgq2 : w2.heap.size ≤ gq := by rw [hgqe]; exact hE.out.size
          have HGQ := Lib.hid hgqe
          have HXE := Lib.hid hxe; clear hxe
          go_wp2_with fail
          rw [← HGQ.out]
          go_loopg [13, 14, 15, 16, 17, 18, 19] (xs.length - lv.length) (fun J v13 _ _ _ _ _ _ wz => ∃ (y : Int) (u q : List Int), v13 = .int .i64 y ∧ y = (J : Int) - 1 ∧ KInv 1073741824 lv (val 1073741824 xs) xs.length J u q ∧ BlkI' wz gu 3 .i64 u spu ∧ BlkI wz gq 3 .i64 q ∧ Ext w2 wz)
          case atStart => exact ⟨_, xs, _, rfl, by omega, KI, Blk.alloc HU _, by rw [HGQ.out]; exact BlkI.made _ _ _ _, inferInstance⟩
          case round =>
            clear KI HU hmk hE hgqe HGQ
            obtain ⟨y, u, q, rfl, hy, KI, HU, HQ, hE⟩ := hrel
            have hE0 := Ext.trans (inferInstance : Ext w w2) hE
            cases gk with
            | zero =>
              obtain rfl : y = -1 := by omega
              clear hy
              have KF := Lib.hid (KI.fin (by omega))
              have hul := Lib.hid KI.1
              have hql := Lib.hid KI.2.1
              have ru := KI.2.2.2.1
              have rq := KI.2.2.2.2.1
              have hqr : (q.length : Int) = (xs.length : Int) - (lv.length : Int) := by rw [hql.out]; omega
              go_wp2_with fail
              rw [← hql.out]
              refine use (norm_calls _ _ q _ HQ.ints (Nat.le_refl _) (by rw [hql.out]; omega)) ?_
              rintro e w5 ⟨nq, rfl, hnq, hzq, htq, rfl⟩
              go_wp2_with fail
              rw [← hul.out]
              refine use (norm_calls _ _ u _ HU.ints (by rw [hul.out]; exact hcu) hcum) ?_
              rintro e w5 ⟨nu, rfl, hnu, hzu, htu, rfl⟩
              have F := div_fin KF.out VX.out VV.out
              have HF := Lib.hid F; clear F
              go_wp2_with fail
              refine use (nat_shr _ _ _ _ (IsNat.norm' HU hnu (by rw [hul.out]; exact hcu) hcum ru hzu htu HF.out.2) ?_ (by omega) (by omega)) ?_
              · have h0 := IsNat.len (ru.take nu) (top_take hnu htu) (n := n % m * 2 ^ (k : Int).toNat) ((val_take_zs _ hzu).trans HF.out.2)
                exact rem_bl hn HK.2
              rintro e w6 ⟨vr, rfl, hvr, hs6⟩
              go_wp2_with fail
              go_ret2
              refine ⟨_, _, rfl, (IsNat.norm HQ hnq (by rw [hql.out]; omega) rq hzq htq HF.out.1).up, ?_, Step.of⟩
              rwa [Nat.mul_div_cancel _ (Nat.two_pow_pos _)] at hvr
            | succ j =>
              obtain rfl : y = (j : Int) := by omega
              clear hy
              have W := KI.win (by omega) rv HT.out.1 (by have := HT.out.2; omega)
              have hu := W.hu
              have hul := Lib.hid KI.1
              have hjn : j + lv.length < u.length := by rw [W.hv]; omega
              have b1 := HU.cell hjn
              have b2 := HU.cell (show j + lv.length - 1 < u.length by omega)
              have b3 := HU.cell (show j + lv.length - 2 < u.length by omega)
              have a1 := W.ru.all (by omega) (j + lv.length)
              have a2 := W.ru.all (by omega) (j + lv.length - 1)
              have a3 := W.ru.all (by omega) (j + lv.length - 2)
              obtain ⟨adv, rfl, y1⟩ := hiv.ext (b := wr) (lv.length - 1) (by omega)
              have y2 := (hiv.ext (b := wr)).lt (show lv.length - 2 < lv.length by omega)
              have a4 := rv.all (by omega) (lv.length - 1)
              have a5 := rv.all (by omega) (lv.length - 2)
              have hvt : 536870912 ≤ rd lv (lv.length - 1) := by rw [W.hv]; exact HT.out.2
              have hul2 : xs.length ≤ 1099511627777 := by rw [HXE.out]; omega
              have hjl : j + lv.length < xs.length := by rw [← hul.out]; exact hjn
              go_wp2_with fail
              go_quiet (fail)
              go_upto_block 6 with (fail)
              obtain ⟨top, htop⟩ : ∃ top, top = rd u (j + lv.length) * 1073741824 + rd u (j + lv.length - 1) := ⟨_, rfl⟩
              have ht0 : 0 ≤ top := by omega
              have ht1 : top < 1152921504606846976 := by omega
              obtain ⟨g0, hg0⟩ : ∃ g0, g0 = mn (top / rd lv (lv.length - 1)) 1073741823 := ⟨_, rfl⟩
              have hmn := mn_le (top / rd lv (lv.length - 1)) 1073741823
              have G0 : GInv 1073741824 lv u j g0 := GInv.zero W (by rw [← htop, hg0]; exact hmn.1) (by rw [hg0]; omega) (by rw [← htop, hg0]; exact hmn.2.2)
              rw [← htop, ← hg0]
              have HTOP := Lib.hid htop; have HG0 := Lib.hid hg0
              clear hmn htop hg0
              go_cut [15] from 106 to 145 (fun v15 wy => ∃ g : Int, v15 = .int .i64 g ∧ GInv 1073741824 lv u j g ∧ BlkI' wy gu 3 .i64 u spu ∧ BlkI wy gq 3 .i64 q ∧ Ext w2 wy)
              case first =>
                go_wp2_with fail
                go_loopw [15] (fun v15 wy => ∃ g : Int, v15 = .int .i64 g ∧ GInv 1073741824 lv u j g ∧ BlkI' wy gu 3 .i64 u spu ∧ BlkI wy gq 3 .i64 q ∧ Ext w2 wy) (fun v _ => (intOf v).toNat)
                case atStart => exact ⟨g0, rfl, G0, HU.drewN _, HQ.drewN _, inferInstance⟩
                case round =>
                  clear HU HQ hE hE0 b1 b2 b3 y1 y2 G0
                  obtain ⟨g, rfl, G, HU, HQ, hE⟩ := hrel
                  have hE0 := Ext.trans (inferInstance : Ext w w2) hE
                  have b1 := HU.cell hjn
                  have b2 := HU.cell (show j + lv.length - 1 < u.length by omega)
                  have b3 := HU.cell (show j + lv.length - 2 < u.length by omega)
                  have y1 := (hiv.ext (b := wr)).lt (show lv.length - 1 < lv.length by omega)
                  have y2 := (hiv.ext (b := wr)).lt (show lv.length - 2 < lv.length by omega)
                  have g0' := G.1
                  have g1 := G.2.1
                  have g2 : g * rd lv (lv.length - 1) ≤ top := by rw [HTOP.out]; exact G.2.2.2
                  have g3 := (mul_limbs (by omega : (1 : Int) < 1073741824) ⟨g0', g1⟩ a4)
                  have g4 := (mul_limbs (by omega : (1 : Int) < 1073741824) ⟨g0', g1⟩ a5)
                  by_cases q1 : top - g * rd lv (lv.length - 1) < 1073741824
                  · by_cases q2 : (top - g * rd lv (lv.length - 1)) * 1073741824 + rd u (j + lv.length - 2) < g * rd lv (lv.length - 2)
                    · have q1' : decide (top - g * rd lv (lv.length - 1) < 1073741824) = true := by simpa using q1
                      have q2' : decide ((top - g * rd lv (lv.length - 1)) * 1073741824 + rd u (j + lv.length - 2) < g * rd lv (lv.length - 2)) = true := by simpa using q2
                      have G' := G.step W (by rw [← HTOP.out]; exact q2)
                      have hg1 : 1 ≤ g := by have := G'.1; omega
                      go_wp2_with fail
                      go_quiet (fail)
                      go_wp2
                      exact ⟨⟨g - 1, rfl, G', HU.drewN _, HQ.drewN _, inferInstance⟩, by simp [intOf] <;> omega⟩
                    · have q2' : decide ((top - g * rd lv (lv.length - 1)) * 1073741824 + rd u (j + lv.length - 2) < g * rd lv (lv.length - 2)) = false := by simpa using q2
                      go_wp2_with fail
                      go_quiet (fail)
                      go_wp2_with fail
                      go_meet
                      exact ⟨g, rfl, G, HU.drewN _, HQ.drewN _, inferInstance⟩
                  · have q1' : decide (top - g * rd lv (lv.length - 1) < 1073741824) = false := by simpa using q1
                    go_wp2_with fail
                    go_quiet (fail)
                    go_wp2_with fail
                    go_meet
                    exact ⟨g, rfl, G, HU.drewN _, HQ.drewN _, inferInstance⟩
              case rest =>
                clear HU HQ hE hE0 b1 b2 b3 y1 y2 G0
                obtain ⟨g, rfl, G, HU, HQ, hE⟩ := hcut
                have hE0 := Ext.trans (inferInstance : Ext w w2) hE
                have g0' := G.1
                have g1 := G.2.1
                have hgd := G.2.2.1
                have : Fresh w2 gu := ⟨hgu⟩
                have : Fresh w2 gq := ⟨hgq2⟩
                clear HTOP HG0 ht0 ht1
                go_wp2_with fail
                go_loopw [16, 17, 18] (fun v16 v17 _ wy => ∃ (cy : Int) (i : Nat) (x : List Int), v16 = .int .i64 cy ∧ v17 = .int .i64 i ∧ SMInv 1073741824 lv g j u i cy x ∧ BlkI' wy gu 3 .i64 x spu ∧ BlkI wy gq 3 .i64 q ∧ Ext w2 wy) (fun _ v _ _ => lv.length - (intOf v).toNat)
                case atStart => exact ⟨0, 0, u, rfl, rfl, SMInv.zero (by omega) W.ru, HU, HQ, inferInstance⟩
                case round =>
                  clear HU HQ hE hE0
                  obtain ⟨cy, i, x, rfl, rfl, SM, HU, HQ, hE⟩ := hrel
                  have hE0 := Ext.trans (inferInstance : Ext w w2) hE
                  have c0 := SM.1
                  have c1 := SM.2.1
                  have hxl := Lib.hid SM.2.2.2.1
                  by_cases hi : i < lv.length
                  · have hij : i + j < x.length := by rw [hxl.out]; omega
                    have b1 := HU.cell hij
                    have b2 := HU.frozen (i + j)
                    have y1 := (hiv.ext (b := wr)).lt hi
                    have e1 := SM.2.2.2.2.1.all (by omega) (i + j)
                    have e2 := rv.all (by omega) i
                    have e3 := mul_limbs (by omega : (1 : Int) < 1073741824) ⟨g0', g1⟩ e2
                    by_cases q1 : rd x (i + j) - cy - g * rd lv i < 0
                    · go_wp2_with fail
                      go_quiet (fail)
                      go_wp2
                      exact ⟨⟨_, i + 1, _, rfl, by go_num, SM.step' (by omega) hi (by rw [← hxl.out]; exact hij) (by omega) (by omega) (by omega) (by omega) rfl, (HU.drewN _).set hij _, Blk.far HQ hgq.symm _, inferInstance⟩, by simp [intOf] <;> omega⟩
                    · go_wp2_with fail
                      go_quiet (fail)
                      go_wp2
                      exact ⟨⟨0, i + 1, _, rfl, by go_num, SM.step' (by omega) hi (by rw [← hxl.out]; exact hij) (by omega) (by omega) (by omega) (by omega) (by omega), (HU.drewN _).set hij _, Blk.far HQ hgq.symm _, inferInstance⟩, by simp [intOf] <;> omega⟩
                  · obtain rfl : i = lv.length := by have := SM.2.2.1; omega
                    have hjx : j + lv.length < x.length := by rw [hxl.out]; exact hjn
                    have b1 := HU.cell hjx
                    have b2 := HU.frozen (j + lv.length)
                    have e1 := SM.2.2.2.2.1.all (by omega) (j + lv.length)
                    have AB := ABInv.start' W hgd g1 SM
                    go_wp2_with fail
                    obtain ⟨z, hz⟩ : ∃ z, z = x.set (j + lv.length) (rd x (j + lv.length) - cy) := ⟨_, rfl⟩
                    go_loopw [15, 16, 19] (fun v15 _ _ wy => ∃ (g : Int) (z : List Int), v15 = .int .i64 g ∧ ABInv 1073741824 lv u N j g z ∧ BlkI' wy gu 3 .i64 z spu ∧ BlkI wy gq 3 .i64 q ∧ Ext w2 wy) (fun v _ _ _ => (intOf v).toNat)
                    case atStart => exact ⟨g, _, rfl, AB, HU.set hjx _, Blk.far HQ hgq.symm _, inferInstance⟩
                    case round =>
                      clear HU HQ hE hE0 AB hz b1 b2
                      obtain ⟨g, z, rfl, AB, HU, HQ, hE⟩ := hrel
                      have hE0 := Ext.trans (inferInstance : Ext w w2) hE
                      have hzl := Lib.hid AB.2.2.1
                      have hjz : j + lv.length < z.length := by rw [hzl.out]; exact hjn
                      have b1 := HU.cell hjz
                      have b2 := HU.frozen (j + lv.length)
                      have e1 := AB.at W
                      have d0 := W.dig0
                      have gd := AB.1
                      have gB := AB.2.1
                      by_cases q1 : rd z (j + lv.length) < 0
                      · have gl := AB.low W (by rw [W.hv] at q1; exact q1)
                        go_wp2_with fail
                        obtain ⟨wo, rfl⟩ : ∃ wo : World, wo = wr := ⟨_, rfl⟩
                        go_loopw [16, 19] (fun v16 v19 wy => ∃ (cy : Int) (i : Nat) (x : List Int), v16 = .int .i64 cy ∧ v19 = .int .i64 i ∧ BKInv 1073741824 lv j z i cy x ∧ BlkI' wy gu 3 .i64 x spu ∧ BlkI wy gq 3 .i64 q ∧ Ext w2 wy) (fun _ v _ => lv.length - (intOf v).toNat)
                        case atStart => exact ⟨0, 0, z, rfl, rfl, BKInv.zero _ _ _ _, HU, HQ, inferInstance⟩
                        case round =>
                          clear HU HQ hE hE0 b1 b2
                          obtain ⟨cy, i, x, rfl, rfl, BK, HU, HQ, hE⟩ := hrel
                          have hE0 := Ext.trans (inferInstance : Ext w w2) hE
                          have c0 := BK.1
                          have c1 := BK.2.1
                          have hxl := Lib.hid BK.2.2.2.1
                          have hjx : j + lv.length < x.length := by rw [hxl.out]; exact hjz
                          by_cases hi : i < lv.length
                          · have hij : i + j < x.length := by omega
                            have b1 := HU.cell hij
                            have b2 := HU.frozen (i + j)
                            have y1 := (hiv.ext (b := wr)).lt hi
                            have e4 := BK.2.2.2.2.2.1 (i + j) (by omega)
                            have e5 := AB.rest W (i + j) (by omega)
                            rw [← e4] at e5
                            have e2 := rv.all (by omega) i
                            have E4 := Lib.hid e4; clear e4
                            go_wp2_with fail
                            go_quiet (fail)
                            go_wp2
                            exact ⟨⟨_, i + 1, _, rfl, by go_num, BK.step' (by omega) hi (by rw [← hxl.out]; exact hij) e5 e2 rfl, (HU.drewN _).set hij _, Blk.far HQ hgq.symm _, inferInstance⟩, by simp [intOf] <;> omega⟩
                          · obtain rfl : i = lv.length := by have := BK.2.2.1; omega
                            have b1 := HU.cell hjx
                            have b2 := HU.frozen (j + lv.length)
                            have e4 := BK.2.2.2.2.2.1 (j + lv.length) (by omega)
                            have e5 : -1073741824 ≤ rd x (j + lv.length) := by rw [e4]; exact e1.1
                            have e6 : rd x (j + lv.length) < 1073741824 := by rw [e4]; exact e1.2
                            have E4 := Lib.hid e4; clear e4
                            go_wp2
                            exact ⟨⟨g - 1, _, rfl, ABInv.back' W AB q1 BK, HU.set hjx _, Blk.far HQ hgq.symm _, inferInstance⟩, by simp [intOf] <;> omega⟩
                      · have hql := Lib.hid KI.2.1
                        have hjq : j < q.length := by rw [hql.out]; omega
                        have b3 := HQ.cell hjq
                        have b4 := HQ.frozen j
                        have K' := KI.step' W AB (by omega)
                        go_wp2
                        go_roundg j
                        case measure => omega
                        case rel => exact ⟨_, z, _, rfl, rfl, K', Blk.far HU hgq _, HQ.set _ _, inferInstance⟩

end Tt
