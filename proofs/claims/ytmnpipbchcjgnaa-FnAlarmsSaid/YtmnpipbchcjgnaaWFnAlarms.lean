/- The walk of FnAlarms: it returns true. Conditions: its arguments read as lists. (P29) -/
import Derived.Test.YtmnpipbchcjgnaaAlarmP
import Derived.Test.YtmnpipbchcjgnaaLawB
import Derived.Test.YtmnpipbchcjgnaaGives
namespace Go.Proofs.Ytmnpipbchcjgnaa
open Go.RowKit
set_option linter.unusedVariables false
namespace fnAlarms
set_option maxHeartbeats 1600000 in
set_option maxRecDepth 100000 in
theorem walk (w : World) (A0 : Option Addr) (n0 c0 : Nat) (zs0 : List Int) (hr0 : Row w A0 (zs0.map (Value.int .u8))) (hl0 : zs0.length = n0) (hn0 : n0 ≤ maxLen) (hz0 : ∀ z ∈ zs0, 0 ≤ z ∧ z ≤ 255) : Gives Try.prog 4 #[.slice A0 n0 c0] w (.bool true) := by
  unfold maxLen at hn0
  have HZ := hid hz0
  clear hz0
  by_cases hbig : (1048576 : Int) < n0
  · have hb := decide_eq_true hbig
    (unfold Gives; go_enter Try.func4, Try.ntmps4)
    go_wp2_with (go_at_call 5; refine (gives_b hb (big_any _ _ _ _)).over.mono ?_; rintro e w' ⟨rfl, xw, rfl⟩)
    go_ret
    exact ⟨rfl, by repeat (first | exact Ext.refl _ | refine Ext.alloc ?_ _ | assumption | refine Ext.over ?_ _ | refine Ext.drew ?_ | refine Ext.drewN ?_ _)⟩
  have hb := decide_eq_false hbig
  have HAT := hid (fun w' (e : Ext w w') => at_any A0 n0 c0 zs0 0 w' (hr0.ext e) hl0 (by omega) (by omega) HZ.out)
  have hab := atV_bound HZ.out 0
  (unfold Gives; go_enter Try.func4, Try.ntmps4)
  go_wp2_with (go_at_call 5; refine (gives_b hb (big_any _ _ _ _)).over.mono ?_; rintro e w' ⟨rfl, xw, rfl⟩)
  refine (DrawAlarms_any A0 n0 c0 zs0 _ (hr0.ext (by repeat (first | exact Ext.refl _ | refine Ext.alloc ?_ _ | assumption | refine Ext.over ?_ _ | refine Ext.drew ?_ | refine Ext.drewN ?_ _))) hl0 (by omega) HZ.out).mono ?_
  rintro _ w1 ⟨A, n, c, z, B, m, d, r, rfl, hzl, hzz, hrl, hrr, hza, hrb, he⟩
  have HE := hid (Ext.trans (show Ext w _ by repeat (first | exact Ext.refl _ | refine Ext.alloc ?_ _ | assumption | refine Ext.over ?_ _ | refine Ext.drew ?_ | refine Ext.drewN ?_ _)) he)
  have HA := hid hza
  have HB := hid hrb
  have HZZ := hid hzz
  have HRR := hid hrr
  have hn3 : n ≤ 3 := by have := hzz.1; omega
  have hm9 : m ≤ 9 := by have := hrr.1; omega
  have HZL := hid hzl
  have HRL := hid hrl
  clear hza hrb he hzz hrr hzl hrl hbig hb hr0 hl0
  obtain ⟨av, hav⟩ : ∃ av, av = atV zs0 0 := ⟨_, rfl⟩
  rw [← hav] at HAT hab
  clear hav
  go_wp2_with (go_at_call 12; refine (HAT.out _ (HE.out.trans (by repeat (first | exact Ext.refl _ | refine Ext.alloc ?_ _ | assumption | refine Ext.over ?_ _ | refine Ext.drew ?_ | refine Ext.drewN ?_ _)))).over.mono ?_; rintro e w' ⟨rfl, xw, rfl⟩)
  obtain ⟨p, hp⟩ : ∃ p, p = av % 30 := ⟨_, rfl⟩
  have hp0 : 0 ≤ p ∧ p ≤ 29 := by omega
  rw [← hp]
  clear hp hab
  refine (iAlarms_any A n c z B m d r _ (HA.out.ext (by repeat (first | exact Ext.refl _ | refine Ext.alloc ?_ _ | assumption | refine Ext.over ?_ _ | refine Ext.drew ?_ | refine Ext.drewN ?_ _))) HZL.out (by omega) (HB.out.ext (by repeat (first | exact Ext.refl _ | refine Ext.alloc ?_ _ | assumption | refine Ext.over ?_ _ | refine Ext.drew ?_ | refine Ext.drewN ?_ _))) HRL.out (by omega)).mono ?_
  rintro _ w2 ⟨C, na, ca, rfl, ho, he⟩
  have hna := own_len ho
  have hna9 : na ≤ 9 := by have := alarms_len z r; have := HRL.out; omega
  have HNA := hid hna
  have HAL := hid (Row.of_own ho)
  have HE2 := hid (HE.out.trans (Ext.trans (show Ext w1 _ by repeat (first | exact Ext.refl _ | refine Ext.alloc ?_ _ | assumption | refine Ext.over ?_ _ | refine Ext.drew ?_ | refine Ext.drewN ?_ _)) he))
  have HA2 := hid (HA.out.ext (Ext.trans (show Ext w1 _ by repeat (first | exact Ext.refl _ | refine Ext.alloc ?_ _ | assumption | refine Ext.over ?_ _ | refine Ext.drew ?_ | refine Ext.drewN ?_ _)) he))
  have HB2 := hid (HB.out.ext (Ext.trans (show Ext w1 _ by repeat (first | exact Ext.refl _ | refine Ext.alloc ?_ _ | assumption | refine Ext.over ?_ _ | refine Ext.drew ?_ | refine Ext.drewN ?_ _)) he))
  clear ho he hna HE HA HB
  go_wp2_with fail
  refine (iQuiet_any A n c z B m d r p _ HA2.out HZL.out (by omega) HB2.out HRL.out (by omega) (by constructor <;> omega)).mono ?_
  rintro _ w3 ⟨D, nq, cq, rfl, ho, he⟩
  have hnq := own_len ho
  have hnq9 : nq ≤ 9 := by have := quiets_len z r p; have := HRL.out; omega
  have HNQ := hid hnq
  have HQU := hid (Row.of_own ho)
  have HAL3 := hid (HAL.out.ext he)
  have HE3 := hid (HE2.out.trans he)
  have HA3 := hid (HA2.out.ext he)
  have HB3 := hid (HB2.out.ext he)
  have HAN := hid (fun v w' (e : Ext w3 w') => has_any C na ca (alarms z r) v w' (HAL3.out.ext e) HNA.out (by omega))
  clear ho he hnq HE2 HA2 HB2 HAL
  go_wp2_with fail
  go_loopw [8] (fun kv wr => ∃ (k : Nat), k ≤ m ∧ kv = .int .i64 ↑k ∧ Ext w3 wr) (fun kv _ => m - (intOf kv).toNat)
  case atStart => exact ⟨0, by omega, rfl, Ext.refl _⟩
  case round =>
    obtain ⟨k, hk, rfl, he⟩ := hrel
    have HX := hid he
    clear he
    by_cases hlt : k < m
    · have hkt : (k : Int) < m := by omega
      obtain ⟨b, off, hBB, hc⟩ := (HB3.out.ext HX.out).t3 (i := k) (by have := HRL.out; omega)
      obtain ⟨x0, x1, x2⟩ := hc k (by have := HRL.out; omega)
      subst hBB
      clear hc
      have HHK := alarms_has (z := z) (r := r) (k := k) (by have := HRL.out; omega)
      cases hra : raisesAt z r k
      all_goals
        rw [hra] at HHK
        have HHK := hid HHK
        unfold raisesAt at hra
        have HRA := hid hra
        generalize (at3 r k).a = ra at *
        generalize (at3 r k).b = rb at *
        generalize (at3 r k).c = rc at *
        clear hra
        go_wp2_with (first | (go_at_call 17; refine (gives_b HRA.out (iRaises_any A n c z ra rb rc _ (HA3.out.ext (HX.out.trans (by repeat (first | exact Ext.refl _ | refine Ext.alloc ?_ _ | assumption | refine Ext.over ?_ _ | refine Ext.drew ?_ | refine Ext.drewN ?_ _)))) HZL.out (by omega))).over.mono ?_; rintro e w' ⟨rfl, xw, rfl⟩) | (go_at_call 18; refine (gives_b HHK.out (HAN.out k _ (HX.out.trans (by repeat (first | exact Ext.refl _ | refine Ext.alloc ?_ _ | assumption | refine Ext.over ?_ _ | refine Ext.drew ?_ | refine Ext.drewN ?_ _))))).over.mono ?_; rintro e w' ⟨rfl, xw, rfl⟩))
        go_roundw
        case rel => exact ⟨k + 1, by omega, by go_num, HX.out.trans (by repeat (first | exact Ext.refl _ | refine Ext.alloc ?_ _ | assumption | refine Ext.over ?_ _ | refine Ext.drew ?_ | refine Ext.drewN ?_ _))⟩
        case measure => simp [intOf]; omega
    · go_wp2_with fail
      rename World => wo
      have HY := hid HX.out
      clear HX
      go_loopw [9] (fun kv wr => ∃ (k : Nat), k ≤ nq ∧ kv = .int .i64 ↑k ∧ Ext w3 wr) (fun kv _ => nq - (intOf kv).toNat)
      case atStart => exact ⟨0, by omega, rfl, HY.out.trans (by repeat (first | exact Ext.refl _ | refine Ext.alloc ?_ _ | assumption | refine Ext.over ?_ _ | refine Ext.drew ?_ | refine Ext.drewN ?_ _))⟩
      case round =>
        clear HY
        obtain ⟨k, hk, rfl, he⟩ := hrel
        have HX := hid he
        clear he
        by_cases hlt : k < nq
        · have hkt : (k : Int) < nq := by omega
          obtain ⟨b, off, hBB, hc⟩ := (HQU.out.ext HX.out).ints (i := k) (by have := HNQ.out; omega)
          have y1 := hc k (by have := HNQ.out; omega)
          subst hBB
          have HM := hid (show hasB (alarms z r) (atI (quiets z r p) k) = true from decide_eq_true (quiets_in (by have := HNQ.out; omega)))
          by_cases hk0 : k = 0
          · have hk1 : ¬ 0 < k := by omega
            have hk1t : ¬ (0 : Int) < k := by omega
            clear hc hk0
            generalize atI (quiets z r p) k = v1 at *
            go_wp2_with fail
            (refine wp_region_calm (by kernel_rfl) (by kernel_rfl) ?_; (repeat (go_big_quiet_step ((go_at_call 18; exact (gives_b HM.out (HAN.out v1 _ (HX.out.trans (by repeat (first | exact Ext.refl _ | refine Ext.alloc ?_ _ | assumption | refine Ext.over ?_ _ | refine Ext.drew ?_ | refine Ext.drewN ?_ _))))).calm)))); refine wpQuiet_nil ?_; rintro w1 ⟨x1, rfl⟩)
            go_wp2_with fail
            go_roundw
            case rel => exact ⟨k + 1, by omega, by go_num, HX.out.trans (by repeat (first | exact Ext.refl _ | refine Ext.alloc ?_ _ | assumption | refine Ext.over ?_ _ | refine Ext.drew ?_ | refine Ext.drewN ?_ _))⟩
            case measure => simp [intOf]; omega
          · have y0 := hc (k - 1) (by have := HNQ.out; omega)
            have hup := quiets_up (z := z) (r := r) (p := p) (k := k) (by omega) (by have := HNQ.out; omega)
            have hk1 : 0 < k := by omega
            have hk1t : (0 : Int) < k := by omega
            clear hc
            generalize atI (quiets z r p) (k - 1) = v0 at *
            generalize atI (quiets z r p) k = v1 at *
            have hle : decide (v1 ≤ v0) = false := decide_eq_false (by omega)
            go_wp2_with fail
            (refine wp_region_calm (by kernel_rfl) (by kernel_rfl) ?_; (repeat (go_big_quiet_step ((go_at_call 18; exact (gives_b HM.out (HAN.out v1 _ (HX.out.trans (by repeat (first | exact Ext.refl _ | refine Ext.alloc ?_ _ | assumption | refine Ext.over ?_ _ | refine Ext.drew ?_ | refine Ext.drewN ?_ _))))).calm)))); refine wpQuiet_nil ?_; rintro w1 ⟨x1, rfl⟩)
            go_wp2_with fail
            go_roundw
            case rel => exact ⟨k + 1, by omega, by go_num, HX.out.trans (by repeat (first | exact Ext.refl _ | refine Ext.alloc ?_ _ | assumption | refine Ext.over ?_ _ | refine Ext.drew ?_ | refine Ext.drewN ?_ _))⟩
            case measure => simp [intOf]; omega
        · go_wp2_with fail
          rename World => wp
          have HY := hid HX.out
          clear HX
          go_loopw [10] (fun kv wr => ∃ (k : Nat), k ≤ na ∧ kv = .int .i64 ↑k ∧ Ext w3 wr) (fun kv _ => na - (intOf kv).toNat)
          case atStart => exact ⟨0, by omega, rfl, HY.out.trans (by repeat (first | exact Ext.refl _ | refine Ext.alloc ?_ _ | assumption | refine Ext.over ?_ _ | refine Ext.drew ?_ | refine Ext.drewN ?_ _))⟩
          case round =>
            clear HY
            obtain ⟨k, hk, rfl, he⟩ := hrel
            have HX := hid he
            clear he
            by_cases hlt : k < na
            · have hkt : (k : Int) < na := by omega
              obtain ⟨b, off, hBB, hc⟩ := (HAL3.out.ext HX.out).ints (i := k) (by have := HNA.out; omega)
              have y1 := hc k (by have := HNA.out; omega)
              subst hBB
              clear hc
              obtain ⟨iy, hiy, hiy2⟩ := al_at (z := z) (r := r) (k := k) (by have := HNA.out; omega)
              have hiy3 : iy < m := by have := HRL.out; omega
              have hiyt : (iy : Int) < m := by omega
              have HIY := hid hiy
              have HYB := hid (HRR.out.2 (at3 r iy) (by rw [at3_eq _ _ hiy2]; exact List.getElem_mem hiy2))
              have HNR := hid (near_all (z := z) (r := r) (p := p) hp0.1 (j := k) (by have := HNA.out; omega))
              rw [hiy] at y1 HNR
              rw [HNQ.out] at HNR
              clear hiy hiy2
              go_wp2_with fail
              rename World => wq
              go_loopw [11, 12] (fun nv iv wr => ∃ (i : Nat), i ≤ nq ∧ iv = .int .i64 ↑i ∧ nv = .bool (nearN (nearQ z r p iy) i) ∧ Ext w3 wr) (fun _ iv _ => nq - (intOf iv).toNat)
              case atStart => exact ⟨0, by omega, rfl, rfl, HX.out.trans (by repeat (first | exact Ext.refl _ | refine Ext.alloc ?_ _ | assumption | refine Ext.over ?_ _ | refine Ext.drew ?_ | refine Ext.drewN ?_ _))⟩
              case round =>
                have HX0 := hid HX.out
                clear HX
                obtain ⟨i, hi, rfl, rfl, he⟩ := hrel
                have HX := hid he
                clear he
                by_cases hlt2 : i < nq
                · have hit : (i : Int) < nq := by omega
                  obtain ⟨b2, off2, hDD, hc⟩ := (HQU.out.ext HX.out).ints (i := i) (by have := HNQ.out; omega)
                  have y2 := hc i (by have := HNQ.out; omega)
                  subst hDD
                  clear hc
                  obtain ⟨b3, off3, e3, hc3⟩ := (HAL3.out.ext HX.out).ints (i := k) (by have := HNA.out; omega)
                  cases e3
                  have y1 := hc3 k (by have := HNA.out; omega)
                  rw [HIY.out] at y1
                  clear hc3
                  obtain ⟨ix, hix, hix2⟩ := qu_at (z := z) (r := r) (p := p) (k := i) (by have := HNQ.out; omega)
                  have hix3 : ix < m := by have := HRL.out; omega
                  have hixt : (ix : Int) < m := by omega
                  have HXB := hid (HRR.out.2 (at3 r ix) (by rw [at3_eq _ _ hix2]; exact List.getElem_mem hix2))
                  have NQ := hid (show nearQ z r p iy i = ((at3 r ix).a == (at3 r iy).a && decide (max ((at3 r ix).c - (at3 r iy).c) ((at3 r iy).c - (at3 r ix).c) ≤ p)) by
                    unfold nearQ nearAt; rw [hix, Int.toNat_natCast, Int.toNat_natCast])
                  rw [hix] at y2
                  clear hix hix2
                  obtain ⟨b4, off4, e4, hc4⟩ := (HB3.out.ext HX.out).t3 (i := iy) (by have := HRL.out; omega)
                  obtain ⟨s0, s1, s2⟩ := hc4 ix (by have := HRL.out; omega)
                  obtain ⟨t0, t1, t2⟩ := hc4 iy (by have := HRL.out; omega)
                  subst e4
                  clear hc4
                  have hxb := HXB.out.2.2
                  have hyb := HYB.out.2.2
                  have HSN := hid (show nearN (nearQ z r p iy) (i + 1) = (nearN (nearQ z r p iy) i || nearQ z r p iy i) from rfl)
                  rw [NQ.out] at HSN
                  clear HXB NQ
                  have HYB0 := hid HYB.out
                  clear HYB
                  generalize (at3 r ix).a = xa at *
                  generalize (at3 r ix).b = xb at *
                  generalize (at3 r ix).c = xc at *
                  generalize (at3 r iy).a = ya at *
                  generalize (at3 r iy).b = yb at *
                  generalize (at3 r iy).c = yc at *
                  cases hnb : nearN (nearQ z r p iy) i
                  case true =>
                    have HNB := hid (show nearN (nearQ z r p iy) (i + 1) = true by rw [HSN.out, hnb]; rfl)
                    clear hnb
                    go_wp2_with fail
                    go_roundw
                    case rel => exact ⟨i + 1, by omega, by go_num, by rw [HNB.out], HX.out.trans (by repeat (first | exact Ext.refl _ | refine Ext.alloc ?_ _ | assumption | refine Ext.over ?_ _ | refine Ext.drew ?_ | refine Ext.drewN ?_ _))⟩
                    case measure => simp [intOf]; omega
                  case false =>
                    by_cases hz : xa = ya
                    · have hzt : (xa == ya) = true := by simpa using hz
                      have HNB := hid (show nearN (nearQ z r p iy) (i + 1) = decide (max (xc - yc) (yc - xc) ≤ p) by rw [HSN.out, hnb, hzt]; simp)
                      clear hnb hz
                      go_wp2_with fail
                      go_roundw
                      case rel => exact ⟨i + 1, by omega, by go_num, by rw [HNB.out], HX.out.trans (by repeat (first | exact Ext.refl _ | refine Ext.alloc ?_ _ | assumption | refine Ext.over ?_ _ | refine Ext.drew ?_ | refine Ext.drewN ?_ _))⟩
                      case measure => simp [intOf]; omega
                    · have hzt : (xa == ya) = false := by rw [beq_eq_false_iff_ne]; exact hz
                      have HNB := hid (show nearN (nearQ z r p iy) (i + 1) = false by rw [HSN.out, hnb, hzt]; simp)
                      clear hnb hz
                      go_wp2_with fail
                      go_roundw
                      case rel => exact ⟨i + 1, by omega, by go_num, by rw [HNB.out], HX.out.trans (by repeat (first | exact Ext.refl _ | refine Ext.alloc ?_ _ | assumption | refine Ext.over ?_ _ | refine Ext.drew ?_ | refine Ext.drewN ?_ _))⟩
                      case measure => simp [intOf]; omega
                · obtain rfl : i = nq := by omega
                  rw [HNR.out]
                  go_wp2_with fail
                  go_roundw
                  case rel => exact ⟨k + 1, by omega, by go_num, HX.out.trans (by repeat (first | exact Ext.refl _ | refine Ext.alloc ?_ _ | assumption | refine Ext.over ?_ _ | refine Ext.drew ?_ | refine Ext.drewN ?_ _))⟩
                  case measure => simp [intOf]; omega
            · have hkn : k = na := by omega
              obtain ⟨bz, offz, hzA, hcz⟩ := (HA3.out.ext HX.out).t3 (i := 0) (by have := HZZ.out.1; omega)
              obtain ⟨z0, z1, z2⟩ := hcz 0 (by have := HZZ.out.1; omega)
              rw [show offz + 0 * 3 = offz by omega] at z0 z1 z2
              have HZK := hid (HZZ.out.2 (at3 z 0) (by rw [at3_eq _ _ (by have := HZZ.out.1; omega)]; exact List.getElem_mem _))
              have hn0' : 0 < n := by have := HZZ.out.1; have := HZL.out; omega
              subst hzA
              clear hcz hkn
              obtain ⟨cv, hcv⟩ : ∃ cv, cv = calm z r := ⟨_, rfl⟩
              have HCV := hid (fun w' (e : Ext w3 w') => gives_v hcv.symm (iCalm_any (some ⟨bz, offz, none⟩) n c z B m d r w' (HA3.out.ext e) HZL.out (by omega) (HB3.out.ext e) HRL.out (by omega)))
              have hc0 : 0 ≤ cv := by rw [hcv]; exact calm_0
              have hc1 : na ≤ 1 → cv = 0 := fun h => by rw [hcv]; exact calm_one (by have := HNA.out; omega)
              clear hcv
              generalize (at3 z 0).a = za at *
              generalize (at3 z 0).b = zb at *
              generalize (at3 z 0).c = zc at *
              by_cases hn1 : 1 < na
              · have hn1t : (1 : Int) < na := by omega
                clear hc1
                go_wp2_with (first | (go_at_call 19; refine (HCV.out _ (HX.out.trans (by repeat (first | exact Ext.refl _ | refine Ext.alloc ?_ _ | assumption | refine Ext.over ?_ _ | refine Ext.drew ?_ | refine Ext.drewN ?_ _)))).over.mono ?_; rintro e w' ⟨rfl, xw, rfl⟩) | (go_at_call 20; refine (gives_b HZK.out (iZoneOk_any za zb zc _)).over.mono ?_; rintro e w' ⟨rfl, xw, rfl⟩))
                go_ret
                exact ⟨rfl, HE3.out.trans (HX.out.trans (by repeat (first | exact Ext.refl _ | refine Ext.alloc ?_ _ | assumption | refine Ext.over ?_ _ | refine Ext.drew ?_ | refine Ext.drewN ?_ _)))⟩
              · obtain rfl : cv = 0 := hc1 (by omega)
                have hn1t : ¬ (1 : Int) < na := by omega
                clear hc1
                go_wp2_with (first | (go_at_call 19; refine (HCV.out _ (HX.out.trans (by repeat (first | exact Ext.refl _ | refine Ext.alloc ?_ _ | assumption | refine Ext.over ?_ _ | refine Ext.drew ?_ | refine Ext.drewN ?_ _)))).over.mono ?_; rintro e w' ⟨rfl, xw, rfl⟩) | (go_at_call 20; refine (gives_b HZK.out (iZoneOk_any za zb zc _)).over.mono ?_; rintro e w' ⟨rfl, xw, rfl⟩))
                go_ret
                exact ⟨rfl, HE3.out.trans (HX.out.trans (by repeat (first | exact Ext.refl _ | refine Ext.alloc ?_ _ | assumption | refine Ext.over ?_ _ | refine Ext.drew ?_ | refine Ext.drewN ?_ _)))⟩
end fnAlarms
end Go.Proofs.Ytmnpipbchcjgnaa
