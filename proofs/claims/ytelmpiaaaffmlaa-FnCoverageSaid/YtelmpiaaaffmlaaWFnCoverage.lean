/- FnCoverage: the walk. Conditions: sizes. -/
import Derived.Test.YtelmpiaaaffmlaaCovP
import Derived.Test.YtelmpiaaaffmlaaMFnCoverage
namespace Go.Proofs.Ytelmpiaaaffmlaa
open Go.RowKit
set_option linter.unusedVariables false
namespace fnCoverage
theorem btoi_any (b : Bool) (w : World) : Gives Try.prog 22 #[.bool b] w (.int .i64 (if b then 1 else 0)) := by
  cases b
  all_goals
    (unfold Gives; go_enter Try.func22, Try.ntmps22)
    go_wp2_with fail
    go_ret
    exact ⟨rfl, by repeat (first | exact Ext.refl _ | refine Ext.alloc ?_ _ | assumption | refine Ext.over ?_ _ | refine Ext.drew ?_ | refine Ext.drewN ?_ _)⟩
set_option maxRecDepth 100000 in
set_option maxHeartbeats 1600000 in
theorem walk (w : World) (A0 : Option Addr) (n0 c0 : Nat) (zs0 : List Int) (hr0 : Row w A0 (zs0.map (Value.int .u8))) (hl0 : zs0.length = n0) (hn0 : n0 ≤ maxLen) (hz0 : ∀ z ∈ zs0, 0 ≤ z ∧ z ≤ 255) : Gives Try.prog 4 #[.slice A0 n0 c0] w (.bool true) := by
  unfold maxLen at hn0
  have HZ := hid hz0
  clear hz0
  by_cases hbig : (1048576 : Int) < n0
  · have hb := decide_eq_true hbig
    (unfold Gives; go_enter Try.func4, Try.ntmps4)
    go_wp2_with (go_at_call 5; refine (gives_b hb (big_any _ _ _ _)).over.mono ?_; rintro e w' ⟨rfl, xw, rfl⟩)
    go_ret
    exact ⟨rfl, by repeat (first | exact Ext.refl _ | refine Ext.alloc ?_ _ | assumption | refine Ext.over ?_ _ | refine Ext.drew ?_ | refine Ext.drewN ?_ _)⟩
  have hb := decide_eq_false hbig
  have HR0 := hid hr0
  (unfold Gives; go_enter Try.func4, Try.ntmps4)
  go_wp2_with (go_at_call 5; refine (gives_b hb (big_any _ _ _ _)).over.mono ?_; rintro e w' ⟨rfl, xw, rfl⟩)
  refine (DrawCameras_any A0 n0 c0 zs0 _ (hr0.ext (by repeat (first | exact Ext.refl _ | refine Ext.alloc ?_ _ | assumption | refine Ext.over ?_ _ | refine Ext.drew ?_ | refine Ext.drewN ?_ _))) hl0 (by omega) HZ.out).mono ?_
  rintro _ w1 ⟨A, n, c, L, B, m, d, C, rfl, hll, hrm, hlm, hmd, hcs, hrow, hrc, he⟩
  have hro := hrm.1
  have hn10 : n ≤ 10 := by have := hrm.len; omega
  have hc6 : C.length ≤ 6 := by have := hcs.1; omega
  have hm4 : m ≤ 4 := by have := hcs.1; omega
  have HLL := hid hll
  have HLM := hid hlm
  have HE := hid (Ext.trans (show Ext w _ by repeat (first | exact Ext.refl _ | refine Ext.alloc ?_ _ | assumption | refine Ext.over ?_ _ | refine Ext.drew ?_ | refine Ext.drewN ?_ _)) he)
  have HR := hid hrow
  have HC := hid hrc
  obtain ⟨F, hF⟩ : ∃ F, F = floorL L := ⟨_, rfl⟩
  have HF0 := hid (show 0 < F.length by rw [hF]; exact floor_some hro hc6)
  have HFL := hid (show F.length ≤ 7000 by rw [hF]; exact floor_len hro)
  have HFR := hid (show floorR L = F by rw [hF]; exact floorR_yes hro)
  have HAT := hid (fun (i : Nat) (hi : i ≤ 100) w' (h : Ext w w') => at_any A0 n0 c0 zs0 i w' (HR0.out.ext h) hl0 (by omega) hi HZ.out)
  have HBL := hid (fun (E : Option Addr) (q e : Nat) (C' : List T7) w' (h : Row w' A (L.flatMap T2.v)) (h' : Row w' E (C'.flatMap T7.v)) (hq : C'.length = q) (hy' : q ≤ 1048577) => iBlind_any A n c L E q e C' w' h hll (by omega) h' hq hy')
  have HLE := hid (fun w' (h : Row w' A (L.flatMap T2.v)) (h' : Row w' B (C.flatMap T7.v)) => iLeast_any A n c L B m d C w' h hll (by omega) h' hlm (by omega))
  have HWK := hid (fun w' (h : Row w' A (L.flatMap T2.v)) (h' : Row w' B (C.flatMap T7.v)) => iWeak_any A n c L B m d C w' h hll (by omega) h' hlm (by omega) hmd)
  have HFO := hid (fun w' (h : Row w' A (L.flatMap T2.v)) => sFloor_any A n c L w' h hll (by omega))
  have HCO := hid (fun (E : Option Addr) (q e : Nat) (C' : List T7) pa pb w' (h : Row w' A (L.flatMap T2.v)) (h' : Row w' E (C'.flatMap T7.v)) (hq : C'.length = q) (hy' : q ≤ 1048577) => iCount_at A n c L E q e C' pa pb w' h hll (by omega) h' hq hy')
  have HFI := hid (fun xa xb xc xd xe xf xg pa pb w' (h : Row w' A (L.flatMap T2.v)) => iFilms_at A n c L xa xb xc xd xe xf xg pa pb w' h hll (by omega))
  have HRB := hid (fun z w' (h : Row w' A (L.flatMap T2.v)) (h' : Row w' B (C.flatMap T7.v)) => iRobust_any A n c L B m d C z w' h hll (by omega) h' hlm (by omega))
  have HB0 := hid (show 0 < (blindL L C).length ↔ leastR L C = 0 from blind_least hro hc6)
  have HCL := hid (show ∀ j, j < F.length → leastR L C ≤ countR L C (at2 F j) from fun j hj => by rw [hF] at hj ⊢; exact count_least hro hc6 hj)
  have HRZ := hid (rob_zero hro hc6)
  have HRL := hid (rob_least hro hc6)
  have HBA := hid (show C.length = 0 → (blindL L C).length = F.length from fun h => by rw [hF]; exact blind_all hro hc6 h)
  have HWN := hid (weak_none hro hc6)
  have HWS := hid (weak_some hro hc6)
  have HBR := hid (fun k (hk : k < C.length) => blind_rest hro hc6 hk)
  have HAB := hid (fun i => atV_bound HZ.out i)
  clear hll hrm hlm hcs hrow hrc he hro hF hbig hb hr0
  go_wp2_with fail
  obtain ⟨wa, hwa⟩ : ∃ wa, wa = w1.alloc (.cells #[.slice A n c] 26) := ⟨_, rfl⟩
  have ea : Ext w1 wa := by rw [hwa]; repeat (first | exact Ext.refl _ | refine Ext.alloc ?_ _ | assumption | refine Ext.over ?_ _ | refine Ext.drew ?_ | refine Ext.drewN ?_ _)
  have r0 : wa.cell? ⟨w1.heap.size, 0, none⟩ = some (.slice A n c) := by rw [hwa]; go_simp
  have HEA := hid (HE.out.trans ea)
  have HRA := hid (HR.out.ext ea)
  have HCA := hid (HC.out.ext ea)
  rw [← hwa]
  clear hwa HE HR HC ea
  generalize w1.heap.size = br at r0 ⊢
  refine (HBL.out B m d C wa HRA.out HCA.out HLM.out (by omega)).mono ?_
  rintro _ w2 ⟨D, q, c2, rfl, ho2, e2⟩
  have hq2 := own_len2 ho2
  have r0 := old_cell e2 r0
  have HE2 := hid (HEA.out.trans e2)
  have HR2 := hid (HRA.out.ext e2)
  have HC2 := hid (HCA.out.ext e2)
  clear ho2 e2 HEA HRA HCA
  rw [hq2] at HB0 HRZ HBA HBR
  clear hq2
  obtain ⟨ls, hls⟩ : ∃ ls, ls = leastR L C := ⟨_, rfl⟩
  have HLS := hid (fun w' (h : Row w' A (L.flatMap T2.v)) (h' : Row w' B (C.flatMap T7.v)) => gives_v hls.symm (HLE.out w' h h'))
  rw [← hls] at HB0 HCL HRL
  clear hls HLE
  go_wp2_with (go_at_call 16; refine (HLS.out _ (HR2.out.ext (by repeat (first | exact Ext.refl _ | refine Ext.alloc ?_ _ | assumption | refine Ext.over ?_ _ | refine Ext.drew ?_ | refine Ext.drewN ?_ _))) (HC2.out.ext (by repeat (first | exact Ext.refl _ | refine Ext.alloc ?_ _ | assumption | refine Ext.over ?_ _ | refine Ext.drew ?_ | refine Ext.drewN ?_ _)))).over.mono ?_; rintro e w' ⟨rfl, xw, rfl⟩)
  refine (HFO.out _ (HR2.out.ext (by repeat (first | exact Ext.refl _ | refine Ext.alloc ?_ _ | assumption | refine Ext.over ?_ _ | refine Ext.drew ?_ | refine Ext.drewN ?_ _)))).mono ?_
  rintro _ w3 ⟨G, f, c3, rfl, ho3, e3⟩
  rw [HFR.out] at ho3
  have hf := own_len2 ho3
  have hf0 := HF0.out
  have hf7 := HFL.out
  obtain ⟨a0, ha0⟩ : ∃ a0, a0 = atV zs0 0 := ⟨_, rfl⟩
  have HA0 := hid (fun w' (h : Ext w w') => gives_v ha0.symm (HAT.out 0 (by omega) w' h))
  have hab := HAB.out 0
  rw [← ha0] at hab
  clear ha0
  obtain ⟨j, hj⟩ : ∃ j : Nat, (j : Int) = a0 % F.length := ⟨(a0 % F.length).toNat, by have := Int.emod_nonneg a0 (show (F.length : Int) ≠ 0 by omega); omega⟩
  have hjl : j < F.length := by have := Int.emod_lt_of_pos a0 (show (0 : Int) < F.length by omega); omega
  subst hf
  have hfn : ¬ F.length = 0 := by omega
  have hfe : ((F.length : Int) == 0) = false := by rw [beq_eq_false_iff_ne]; omega
  have htm : a0.tmod F.length = (j : Int) := by rw [Int.tmod_eq_emod_of_nonneg hab.1]; exact hj.symm
  have hjl' : (j : Int) < F.length := by omega
  obtain ⟨bk, off, hG, hc⟩ := (Row.of_own ho3).t2 hjl
  obtain ⟨f0, f1⟩ := hc j hjl
  subst hG
  have r0 := old_cell ((show Ext w2 _ by repeat (first | exact Ext.refl _ | refine Ext.alloc ?_ _ | assumption | refine Ext.over ?_ _ | refine Ext.drew ?_ | refine Ext.drewN ?_ _)).trans e3) r0
  have HE3 := hid (HE2.out.trans ((show Ext w2 _ by repeat (first | exact Ext.refl _ | refine Ext.alloc ?_ _ | assumption | refine Ext.over ?_ _ | refine Ext.drew ?_ | refine Ext.drewN ?_ _)).trans e3))
  have HR3 := hid (HR2.out.ext ((show Ext w2 _ by repeat (first | exact Ext.refl _ | refine Ext.alloc ?_ _ | assumption | refine Ext.over ?_ _ | refine Ext.drew ?_ | refine Ext.drewN ?_ _)).trans e3))
  have HC3 := hid (HC2.out.ext ((show Ext w2 _ by repeat (first | exact Ext.refl _ | refine Ext.alloc ?_ _ | assumption | refine Ext.over ?_ _ | refine Ext.drew ?_ | refine Ext.drewN ?_ _)).trans e3))
  have HCN := hid (HCL.out j hjl)
  clear ho3 e3 hc HE2 HR2 HC2 HFO HFR HF0 HFL hj HCL
  generalize at2 F j = p at *
  go_wp2_with (go_at_call 18; refine (HA0.out _ (HE3.out.trans (by repeat (first | exact Ext.refl _ | refine Ext.alloc ?_ _ | assumption | refine Ext.over ?_ _ | refine Ext.drew ?_ | refine Ext.drewN ?_ _)))).over.mono ?_; rintro e w' ⟨rfl, xw, rfl⟩)
  obtain ⟨w4, hw4⟩ : ∃ w4, w4 = (ovr w3 xw).alloc (.cells #[.int .i64 p.a, .int .i64 p.b] 28) := ⟨_, rfl⟩
  have e4 : Ext w3 w4 := by rw [hw4]; repeat (first | exact Ext.refl _ | refine Ext.alloc ?_ _ | assumption | refine Ext.over ?_ _ | refine Ext.drew ?_ | refine Ext.drewN ?_ _)
  have p0 : w4.cell? ⟨w3.heap.size + ovrN w3 xw, 0, none⟩ = some (.int .i64 p.a) := by rw [hw4]; go_simp
  have p1 : w4.cell? ⟨w3.heap.size + ovrN w3 xw, 1, none⟩ = some (.int .i64 p.b) := by rw [hw4]; go_simp
  have r0 := old_cell e4 r0
  have HE4 := hid (HE3.out.trans e4)
  have HR4 := hid (HR3.out.ext e4)
  have HC4 := hid (HC3.out.ext e4)
  rw [← hw4]
  clear hw4 e4 HE3 HR3 HC3 f0 f1
  generalize w3.heap.size + ovrN w3 xw = bp at p0 p1 ⊢
  obtain ⟨cn, hcn⟩ : ∃ cn, cn = countR L C p := ⟨_, rfl⟩
  have HCT := hid (fun w' (h : Row w' A (L.flatMap T2.v)) (h' : Row w' B (C.flatMap T7.v)) => gives_v (congrArg Nat.cast hcn.symm) (HCO.out B m d C p.a p.b w' h h' HLM.out (by omega)))
  have hcl := HCN.out
  rw [← hcn] at hcl
  have HCNE := hid hcn
  obtain ⟨wk, hwk⟩ : ∃ wk, wk = weakR L C := ⟨_, rfl⟩
  have HWT := hid (fun w' (h : Row w' A (L.flatMap T2.v)) (h' : Row w' B (C.flatMap T7.v)) => gives_v hwk.symm (HWK.out w' h h'))
  have HRT := hid (fun w' (h : Row w' A (L.flatMap T2.v)) (h' : Row w' B (C.flatMap T7.v)) => gives_b HRL.out (HRB.out ls w' h h'))
  rw [← hwk] at HWN HWS
  clear hwk hcn HCN HWK HRL
  have hcl' : ¬ (cn : Int) < ls := by omega
  by_cases hm0 : m = 0
  · have hwk : wk = -1 := HWN.out (by rw [HLM.out]; exact hm0)
    have hqf := HBA.out (by rw [HLM.out]; exact hm0)
    have hls : ls = 0 := HB0.out.1 (by omega)
    subst hls
    have HRZ2 := hid (fun w' (h : Row w' A (L.flatMap T2.v)) (h' : Row w' B (C.flatMap T7.v)) => gives_b (HRZ.out.trans (decide_eq_false (by omega))) (HRB.out 0 w' h h'))
    subst hwk hm0 hqf
    go_wp2_with (first | (go_at_call 19; refine (HCT.out _ (HR4.out.ext (by repeat (first | exact Ext.refl _ | refine Ext.alloc ?_ _ | assumption | refine Ext.over ?_ _ | refine Ext.drew ?_ | refine Ext.drewN ?_ _))) (HC4.out.ext (by repeat (first | exact Ext.refl _ | refine Ext.alloc ?_ _ | assumption | refine Ext.over ?_ _ | refine Ext.drew ?_ | refine Ext.drewN ?_ _)))).over.mono ?_; rintro e w' ⟨rfl, xw, rfl⟩) | (go_at_call 20; refine (HWT.out _ (HR4.out.ext (by repeat (first | exact Ext.refl _ | refine Ext.alloc ?_ _ | assumption | refine Ext.over ?_ _ | refine Ext.drew ?_ | refine Ext.drewN ?_ _))) (HC4.out.ext (by repeat (first | exact Ext.refl _ | refine Ext.alloc ?_ _ | assumption | refine Ext.over ?_ _ | refine Ext.drew ?_ | refine Ext.drewN ?_ _)))).over.mono ?_; rintro e w' ⟨rfl, xw, rfl⟩) | (go_at_call 21; refine (HRZ2.out _ (HR4.out.ext (by repeat (first | exact Ext.refl _ | refine Ext.alloc ?_ _ | assumption | refine Ext.over ?_ _ | refine Ext.drew ?_ | refine Ext.drewN ?_ _))) (HC4.out.ext (by repeat (first | exact Ext.refl _ | refine Ext.alloc ?_ _ | assumption | refine Ext.over ?_ _ | refine Ext.drew ?_ | refine Ext.drewN ?_ _)))).over.mono ?_; rintro e w' ⟨rfl, xw, rfl⟩))
    go_ret
    exact ⟨rfl, HE4.out.trans (by repeat (first | exact Ext.refl _ | refine Ext.alloc ?_ _ | assumption | refine Ext.over ?_ _ | refine Ext.drew ?_ | refine Ext.drewN ?_ _))⟩
  have hm1 : 0 < C.length := by rw [HLM.out]; omega
  obtain ⟨i, hi, hwi, hbest⟩ := HWS.out hm1
  rw [HLM.out] at hi
  subst hwi
  have HBST := hid hbest
  have hmb : ((m : Int) == 0) = false := by rw [beq_eq_false_iff_ne]; omega
  have hi0 : ¬ (i : Int) < 0 := by omega
  have him : ¬ (m : Int) ≤ i := by omega
  obtain ⟨a1, ha1⟩ : ∃ a1, a1 = atV zs0 1 := ⟨_, rfl⟩
  have HA1 := hid (fun w' (h : Ext w w') => gives_v ha1.symm (HAT.out 1 (by omega) w' h))
  have hab1 := HAB.out 1
  rw [← ha1] at hab1
  clear ha1
  obtain ⟨k, hk⟩ : ∃ k : Nat, (k : Int) = a1 % m := ⟨(a1 % m).toNat, by have := Int.emod_nonneg a1 (show (m : Int) ≠ 0 by omega); omega⟩
  have hkm : k < m := by have := Int.emod_lt_of_pos a1 (show (0 : Int) < m by omega); omega
  have htm1 : a1.tmod m = (k : Int) := by rw [Int.tmod_eq_emod_of_nonneg hab1.1]; exact hk.symm
  clear hk hbest hm1 HWN HWS HAT HAB HA0 HBA
  by_cases hq0 : q = 0
  · have hls : (ls == 0) = false := by rw [beq_eq_false_iff_ne]; intro h; have := HB0.out.2 h; omega
    have HRZ2 := hid (fun w' (h : Row w' A (L.flatMap T2.v)) (h' : Row w' B (C.flatMap T7.v)) => gives_b (HRZ.out.trans (decide_eq_true hq0)) (HRB.out 0 w' h h'))
    subst hq0
    go_wp2_with (first | (go_at_call 19; refine (HCT.out _ (HR4.out.ext (by repeat (first | exact Ext.refl _ | refine Ext.alloc ?_ _ | assumption | refine Ext.over ?_ _ | refine Ext.drew ?_ | refine Ext.drewN ?_ _))) (HC4.out.ext (by repeat (first | exact Ext.refl _ | refine Ext.alloc ?_ _ | assumption | refine Ext.over ?_ _ | refine Ext.drew ?_ | refine Ext.drewN ?_ _)))).over.mono ?_; rintro e w' ⟨rfl, xw, rfl⟩) | (go_at_call 20; refine (HWT.out _ (HR4.out.ext (by repeat (first | exact Ext.refl _ | refine Ext.alloc ?_ _ | assumption | refine Ext.over ?_ _ | refine Ext.drew ?_ | refine Ext.drewN ?_ _))) (HC4.out.ext (by repeat (first | exact Ext.refl _ | refine Ext.alloc ?_ _ | assumption | refine Ext.over ?_ _ | refine Ext.drew ?_ | refine Ext.drewN ?_ _)))).over.mono ?_; rintro e w' ⟨rfl, xw, rfl⟩))
    refine (HRZ2.out _ (HR4.out.ext (by repeat (first | exact Ext.refl _ | refine Ext.alloc ?_ _ | assumption | refine Ext.over ?_ _ | refine Ext.drew ?_ | refine Ext.drewN ?_ _))) (HC4.out.ext (by repeat (first | exact Ext.refl _ | refine Ext.alloc ?_ _ | assumption | refine Ext.over ?_ _ | refine Ext.drew ?_ | refine Ext.drewN ?_ _)))).mono ?_
    rintro _ w5 ⟨rfl, e5⟩
    have e5' : Ext w4 w5 := Ext.trans (by repeat (first | exact Ext.refl _ | refine Ext.alloc ?_ _ | assumption | refine Ext.over ?_ _ | refine Ext.drew ?_ | refine Ext.drewN ?_ _)) e5
    have r0 := old_cell e5' r0
    have p0 := old_cell e5' p0
    have p1 := old_cell e5' p1
    have HE5 := hid (HE4.out.trans e5')
    have HR5 := hid (HR4.out.ext e5')
    have HC5 := hid (HC4.out.ext e5')
    clear e5 e5' HE4 HR4 HC4
    go_wp2_with fail
    refine (HRT.out _ (HR5.out.ext (by repeat (first | exact Ext.refl _ | refine Ext.alloc ?_ _ | assumption | refine Ext.over ?_ _ | refine Ext.drew ?_ | refine Ext.drewN ?_ _))) (HC5.out.ext (by repeat (first | exact Ext.refl _ | refine Ext.alloc ?_ _ | assumption | refine Ext.over ?_ _ | refine Ext.drew ?_ | refine Ext.drewN ?_ _)))).mono ?_
    rintro _ w6 ⟨rfl, e6⟩
    have r0 := old_cell e6 r0
    have p0 := old_cell e6 p0
    have p1 := old_cell e6 p1
    have HE6 := hid (HE5.out.trans e6)
    have HR6 := hid (HR5.out.ext e6)
    have HC6 := hid (HC5.out.ext e6)
    clear e6 HE5 HR5 HC5
    go_wp2_with fail
    refine (HA1.out _ (HE6.out.trans (by repeat (first | exact Ext.refl _ | refine Ext.alloc ?_ _ | assumption | refine Ext.over ?_ _ | refine Ext.drew ?_ | refine Ext.drewN ?_ _)))).mono ?_
    rintro _ w7 ⟨rfl, e7⟩
    have e7' : Ext w6 w7 := Ext.trans (by repeat (first | exact Ext.refl _ | refine Ext.alloc ?_ _ | assumption | refine Ext.over ?_ _ | refine Ext.drew ?_ | refine Ext.drewN ?_ _)) e7
    have r0 := old_cell e7' r0
    have p0 := old_cell e7' p0
    have p1 := old_cell e7' p1
    have HE7 := hid (HE6.out.trans e7')
    have HR7 := hid (HR6.out.ext e7')
    have HC7 := hid (HC6.out.ext e7')
    have H_E := HE7
    have H_R := HR7
    have H_C := HC7
    clear e7 e7' HE6 HR6 HC6 HRZ2 HRT HWT HCT HA1 HE7 HR7 HC7
    obtain ⟨blk, off', hB, _⟩ := (H_C.out).t7 (show k < C.length by rw [HLM.out]; exact hkm)
    subst hB
    go_wp2_with fail
    obtain ⟨kq, hkq⟩ : ∃ kq, kq = k + 1 := ⟨_, rfl⟩
    have hw : IntKind.i64.wrap ((k : Int) + 1) = (kq : Int) := by rw [IntWalk.i64_in _ (by omega)]; omega
    have hkd : k ≤ d := by omega
    have hkd' : (k : Int) ≤ d := by omega
    have hk0 : (0 : Int) ≤ k := by omega
    have hq1 : kq ≤ m := by omega
    have hq1' : (kq : Int) ≤ m := by omega
    have hd' : (m : Int) ≤ d := by omega
    have HQ := hid hkq
    clear hkq
    refine wp_region_x [.q 1, .q 2, .q 3, .q 5, .q 6, .q 7, .q 8, .u 0, .u 4, .u 9, .u 10] (by kernel_rfl) (by kernel_rfl) (fun wa ea => ?_)
    have ea' : Ext w7 wa := Ext.trans (by repeat (first | exact Ext.refl _ | refine Ext.alloc ?_ _ | assumption | refine Ext.over ?_ _ | refine Ext.drew ?_ | refine Ext.drewN ?_ _)) ea
    have HRa := hid (restN_flat (H_C.out.ext ea') k)
    have HRR := hid (show Row wa (if d = kq then some ⟨blk, off', none⟩ else some ⟨blk, off' + kq * 7, none⟩) ((C.drop kq).flatMap T7.v) by
      split
      · rw [List.drop_eq_nil_of_le (by have := HLM.out; omega)]; exact fun h => absurd rfl h
      · rw [HQ.out]; exact HRa.out.2)
    have HEN := hid (show (if d = kq then some (⟨blk, off', none⟩ : Addr) else some ⟨blk, off' + kq * 7, none⟩) = none → d - kq = 0 by split <;> intro h <;> cases h)
    have HX := hid ea'
    clear ea ea'
    simp only [pick, List.getElem?_cons_succ, List.getElem?_cons_zero]
    repeat (refine wpZ_q (fun K hK => ?_); go_simp; refine hK _ ?_; clear hK K)
    generalize (if d = kq then some (⟨blk, off', none⟩ : Addr) else some ⟨blk, off' + kq * 7, none⟩) = EA at HRR HEN ⊢
    refine wpZ_u ?_
    refine stepH_of (fun K hK => ?_)
    go_simp
    refine hK _ _ (Below.alloc (Below.refl _ _) (Nat.le_refl _) _) ?_; clear hK K
    have HO4 := hid (own_empty wa wa.heap.size wa.heap.size rfl (Nat.le_refl _) 30 7)
    refine wpZ_u ?_
    refine stepH_of (fun K hK => ?_)
    rw [if_pos (by rfl)]
    refine her_pushS wa (.tmp 100) (.tmp 103) 41 rfl 30 Try.underlying41 info_CameraW rfl (by decide) _ 0 [] rfl HO4.out (by repeat (first | exact Ext.refl _ | refine Ext.alloc ?_ _ | assumption | refine Ext.over ?_ _ | refine Ext.drew ?_ | refine Ext.drewN ?_ _)) (some ⟨blk, off', none⟩) k d ((C.take k).flatMap T7.v) rfl (by intro h; cases h) (by rw [flat_len _ 7 T7.len, List.length_take, HLM.out]; congr 1; omega) (HRa.out.1.ext (by repeat (first | exact Ext.refl _ | refine Ext.alloc ?_ _ | assumption | refine Ext.over ?_ _ | refine Ext.drew ?_ | refine Ext.drewN ?_ _))) one7 (by omega) (by decide) ?_
    intro A5 c5 wb ho5 he5 hg5
    refine hK _ _ (grown_below hg5 HO4.out (Nat.le_refl _) (by simp)) ?_; clear hK K
    rw [Nat.zero_add, List.nil_append] at ho5
    rw [Nat.zero_add]
    have HO5 := hid ho5
    have HE5 := hid he5
    clear ho5 he5 hg5
    refine wpZ_u ?_
    refine stepH_of (fun K hK => ?_)
    rw [if_pos (by rfl)]
    refine her_pushS wa (.tmp 104) (.tmp 108) 41 rfl 30 Try.underlying41 info_CameraW rfl (by decide) _ k ((C.take k).flatMap T7.v) rfl HO5.out HE5.out EA (m - kq) (d - kq) ((C.drop kq).flatMap T7.v) rfl HEN.out (by rw [flat_len _ 7 T7.len, List.length_drop, HLM.out]) (HRR.out.ext HE5.out) one7 (by omega) (by decide) ?_
    intro A_k c_k w8 ho6 he6 hg6
    refine hK _ _ (grown_below hg6 HO5.out (Nat.le_refl _) HE5.out.size) ?_; clear hK K
    have HO_k := hid (show Row w8 A_k ((restN C k).flatMap T7.v) from Row.of_own (show w8.ownsRow wa.heap.size 30 7 (.slice A_k (k + (m - kq)) c_k) (k + (m - kq)) ((restN C k).flatMap T7.v) by unfold restN; rw [List.flatMap_append, ← HQ.out]; exact ho6))
    have hrl := restN_len (l := C) (k := k) (by rw [HLM.out]; exact hkm)
    have HL_k := hid (show (restN C k).length = k + (m - kq) by rw [hrl, HLM.out]; have := HQ.out; omega)
    have ex := HX.out.trans he6
    have r0 := old_cell ex r0
    have p0 := old_cell ex p0
    have p1 := old_cell ex p1
    have H_E := hid (H_E.out.trans ex)
    have H_R := hid (H_R.out.ext ex)
    have H_C := hid (H_C.out.ext ex)

    generalize k + (m - kq) = n_k at HL_k ⊢
    clear he6 hg6 ho6 HO5 HE5 HO4 HRa hrl ex HX HQ HRR HEN hw hkd hkd' hk0 hq1 hq1' hd'
    ((first | refine wpZ_u ?_ | skip); refine stepH_of (fun K hK => ?_); go_simp; refine hK _ _ (Below.refl _ _) ?_; clear hK K)
    refine wpZ_nil ?_
    go_wp2_with fail
    obtain ⟨kq, hkq⟩ : ∃ kq, kq = i + 1 := ⟨_, rfl⟩
    have hw : IntKind.i64.wrap ((i : Int) + 1) = (kq : Int) := by rw [IntWalk.i64_in _ (by omega)]; omega
    have hkd : i ≤ d := by omega
    have hkd' : (i : Int) ≤ d := by omega
    have hk0 : (0 : Int) ≤ i := by omega
    have hq1 : kq ≤ m := by omega
    have hq1' : (kq : Int) ≤ m := by omega
    have hd' : (m : Int) ≤ d := by omega
    have HQ := hid hkq
    clear hkq
    refine wp_region_x [.q 1, .q 2, .q 3, .q 5, .q 6, .q 7, .q 8, .u 0, .u 4, .u 9, .u 10] (by kernel_rfl) (by kernel_rfl) (fun wa ea => ?_)
    have ea' : Ext w8 wa := Ext.trans (by repeat (first | exact Ext.refl _ | refine Ext.alloc ?_ _ | assumption | refine Ext.over ?_ _ | refine Ext.drew ?_ | refine Ext.drewN ?_ _)) ea
    have HRa := hid (restN_flat (H_C.out.ext ea') i)
    have HRR := hid (show Row wa (if d = kq then some ⟨blk, off', none⟩ else some ⟨blk, off' + kq * 7, none⟩) ((C.drop kq).flatMap T7.v) by
      split
      · rw [List.drop_eq_nil_of_le (by have := HLM.out; omega)]; exact fun h => absurd rfl h
      · rw [HQ.out]; exact HRa.out.2)
    have HEN := hid (show (if d = kq then some (⟨blk, off', none⟩ : Addr) else some ⟨blk, off' + kq * 7, none⟩) = none → d - kq = 0 by split <;> intro h <;> cases h)
    have HX := hid ea'
    clear ea ea'
    simp only [pick, List.getElem?_cons_succ, List.getElem?_cons_zero]
    repeat (refine wpZ_q (fun K hK => ?_); go_simp; refine hK _ ?_; clear hK K)
    generalize (if d = kq then some (⟨blk, off', none⟩ : Addr) else some ⟨blk, off' + kq * 7, none⟩) = EA at HRR HEN ⊢
    refine wpZ_u ?_
    refine stepH_of (fun K hK => ?_)
    go_simp
    refine hK _ _ (Below.alloc (Below.refl _ _) (Nat.le_refl _) _) ?_; clear hK K
    have HO4 := hid (own_empty wa wa.heap.size wa.heap.size rfl (Nat.le_refl _) 30 7)
    refine wpZ_u ?_
    refine stepH_of (fun K hK => ?_)
    rw [if_pos (by rfl)]
    refine her_pushS wa (.tmp 110) (.tmp 113) 41 rfl 30 Try.underlying41 info_CameraW rfl (by decide) _ 0 [] rfl HO4.out (by repeat (first | exact Ext.refl _ | refine Ext.alloc ?_ _ | assumption | refine Ext.over ?_ _ | refine Ext.drew ?_ | refine Ext.drewN ?_ _)) (some ⟨blk, off', none⟩) i d ((C.take i).flatMap T7.v) rfl (by intro h; cases h) (by rw [flat_len _ 7 T7.len, List.length_take, HLM.out]; congr 1; omega) (HRa.out.1.ext (by repeat (first | exact Ext.refl _ | refine Ext.alloc ?_ _ | assumption | refine Ext.over ?_ _ | refine Ext.drew ?_ | refine Ext.drewN ?_ _))) one7 (by omega) (by decide) ?_
    intro A5 c5 wb ho5 he5 hg5
    refine hK _ _ (grown_below hg5 HO4.out (Nat.le_refl _) (by simp)) ?_; clear hK K
    rw [Nat.zero_add, List.nil_append] at ho5
    rw [Nat.zero_add]
    have HO5 := hid ho5
    have HE5 := hid he5
    clear ho5 he5 hg5
    refine wpZ_u ?_
    refine stepH_of (fun K hK => ?_)
    rw [if_pos (by rfl)]
    refine her_pushS wa (.tmp 114) (.tmp 118) 41 rfl 30 Try.underlying41 info_CameraW rfl (by decide) _ i ((C.take i).flatMap T7.v) rfl HO5.out HE5.out EA (m - kq) (d - kq) ((C.drop kq).flatMap T7.v) rfl HEN.out (by rw [flat_len _ 7 T7.len, List.length_drop, HLM.out]) (HRR.out.ext HE5.out) one7 (by omega) (by decide) ?_
    intro A_i c_i w9 ho6 he6 hg6
    refine hK _ _ (grown_below hg6 HO5.out (Nat.le_refl _) HE5.out.size) ?_; clear hK K
    have HO_i := hid (show Row w9 A_i ((restN C i).flatMap T7.v) from Row.of_own (show w9.ownsRow wa.heap.size 30 7 (.slice A_i (i + (m - kq)) c_i) (i + (m - kq)) ((restN C i).flatMap T7.v) by unfold restN; rw [List.flatMap_append, ← HQ.out]; exact ho6))
    have hrl := restN_len (l := C) (k := i) (by rw [HLM.out]; exact hi)
    have HL_i := hid (show (restN C i).length = i + (m - kq) by rw [hrl, HLM.out]; have := HQ.out; omega)
    have ex := HX.out.trans he6
    have r0 := old_cell ex r0
    have p0 := old_cell ex p0
    have p1 := old_cell ex p1
    have H_E := hid (H_E.out.trans ex)
    have H_R := hid (H_R.out.ext ex)
    have H_C := hid (H_C.out.ext ex)
    have HO_k := hid (HO_k.out.ext ex)
    generalize i + (m - kq) = n_i at HL_i ⊢
    clear he6 hg6 ho6 HO5 HE5 HO4 HRa hrl ex HX HQ HRR HEN hw hkd hkd' hk0 hq1 hq1' hd'
    ((first | refine wpZ_u ?_ | skip); refine stepH_of (fun K hK => ?_); go_simp; refine hK _ _ (Below.refl _ _) ?_; clear hK K)
    refine wpZ_nil ?_
    go_wp2_with fail
    refine wp_region_x [.q 0, .q 1, .q 4, .q 5, .u 2, .q 3, .q 6, .q 7, .q 8, .q 9, .q 12, .q 13, .u 10, .q 11, .u 14, .q 15, .q 16, .q 17, .q 18, .q 19, .q 20, .q 21, .q 22, .q 25, .q 26, .q 27, .q 28, .q 29, .q 30, .u 23, .q 24, .u 31, .u 32, .q 33, .q 34, .u 35] (by kernel_rfl) (by kernel_rfl) (fun wa ea => ?_)
    have ea' : Ext w9 wa := Ext.trans (by repeat (first | exact Ext.refl _ | refine Ext.alloc ?_ _ | assumption | refine Ext.over ?_ _ | refine Ext.drew ?_ | refine Ext.drewN ?_ _)) ea
    have r0 := old_cell ea' r0
    have p0 := old_cell ea' p0
    have p1 := old_cell ea' p1
    have H_E := hid (H_E.out.trans ea')
    have H_R := hid (H_R.out.ext ea')
    have HO_k := hid (HO_k.out.ext ea')
    have HO_i := hid (HO_i.out.ext ea')
    obtain ⟨blk2, off2, hB2, hcx⟩ := (H_C.out.ext ea').t7 (show k < C.length by rw [HLM.out]; exact hkm)
    injection hB2 with hB2
    injection hB2 with hb1 hb2
    subst hb1 hb2
    obtain ⟨x0, x1, x2, x3, x4, x5, x6⟩ := hcx k (by rw [HLM.out]; exact hkm)
    have HCR := hid (countR_rest (L := L) (C := C) (p := p) (k := k) (by rw [HLM.out]; exact hkm))
    have HCB := hid (countR_le L C p)
    have HBK := hid (HBR.out k (by rw [HLM.out]; exact hkm))
    have HBI := hid (HBST.out k (by rw [HLM.out]; exact hkm))
    obtain ⟨x, hx⟩ : ∃ x, x = at7 C k := ⟨_, rfl⟩
    rw [← hx] at x0 x1 x2 x3 x4 x5 x6 HCR
    obtain ⟨fb, hfb⟩ : ∃ fb, fb = filmR L x p := ⟨_, rfl⟩
    have HFB := hid (fun w' (h : Row w' A (L.flatMap T2.v)) => gives_b (show filmR L ⟨x.a, x.b, x.c, x.d, x.e, x.f, x.g⟩ ⟨p.a, p.b⟩ = fb from hfb.symm) (HFI.out x.a x.b x.c x.d x.e x.f x.g p.a p.b w' h))
    rw [← hfb] at HCR
    obtain ⟨tb, htb⟩ : ∃ tb : Int, tb = if fb then 1 else 0 := ⟨_, rfl⟩
    have HTB := hid (fun w' => gives_v htb.symm (btoi_any fb w'))
    obtain ⟨cr, hcr⟩ : ∃ cr, cr = countR L (restN C k) p := ⟨_, rfl⟩
    have HCK := hid (fun w' (h : Row w' A (L.flatMap T2.v)) (h' : Row w' A_k ((restN C k).flatMap T7.v)) => gives_v (congrArg Nat.cast hcr.symm) (HCO.out A_k n_k c_k (restN C k) p.a p.b w' h h' HL_k.out (by have := HL_k.out; have := restN_len (l := C) (k := k) (by rw [HLM.out]; exact hkm); omega)))
    have heq : IntKind.i64.wrap ((cn : Int) - cr) = tb := by
      have h1 := HCR.out
      have h2 := HCB.out
      rw [← HCNE.out, ← hcr] at h1
      rw [← HCNE.out] at h2
      rw [IntWalk.i64_in _ (by omega), htb]
      cases fb <;> simp at h1 ⊢ <;> omega
    have hnk : n_k ≤ 6 := by have := HL_k.out; have := restN_len (l := C) (k := k) (by rw [HLM.out]; exact hkm); omega
    have hni : n_i ≤ 6 := by have := HL_i.out; have := restN_len (l := C) (k := i) (by rw [HLM.out]; exact hi); omega
    clear ea ea' hcx hx hfb htb hcr HCR HCB H_C
    simp only [pick, List.getElem?_cons_succ, List.getElem?_cons_zero]
    repeat (refine wpZ_q (fun K hK => ?_); go_simp; refine hK _ ?_; clear hK K)
    refine wpZ_u ?_
    refine stepH_of (fun K hK => ?_)
    go_simp
    refine (HBL.out A_k n_k c_k (restN C k) wa H_R.out HO_k.out HL_k.out (by omega)).mono ?_
    rintro _ wb ⟨A7, q7, c7, rfl, ho, he⟩
    refine ⟨_, rfl, hK _ _ (ext_below he (Nat.le_refl _)) ?_⟩; clear hK K
    have hq7 := own_len2 ho
    have HWB := hid he
    have hk7 := HBK.out
    have hi7 := HBI.out
    rw [hq7] at hk7 hi7
    have hk7' : (0 : Int) ≤ q7 := by omega
    have HQ7 := hid hq7
    clear ho he hq7 HBK HBI
    iterate 7 (refine wpZ_q (fun K hK => ?_); go_simp; refine hK _ ?_; clear hK K)
    refine wpZ_u ?_
    refine stepH_of (fun K hK => ?_)
    go_simp
    refine (HBL.out A_i n_i c_i (restN C i) wb (H_R.out.ext HWB.out) (HO_i.out.ext HWB.out) HL_i.out (by omega)).mono ?_
    rintro _ wc ⟨A8, q8, c8, rfl, ho, he⟩
    refine ⟨_, rfl, hK _ _ (ext_below he HWB.out.size) ?_⟩; clear hK K
    have hq8 := own_len2 ho
    rw [hq8] at hi7
    have hi7' : (q7 : Int) ≤ q8 := by omega
    have HWC := hid (HWB.out.trans he)
    clear ho he hq8 HWB
    (refine wpZ_q (fun K hK => ?_); go_simp; refine hK _ ?_; clear hK K)
    refine wpZ_u ?_
    refine stepH_of (fun K hK => ?_)
    go_simp
    refine (HBL.out A_k n_k c_k (restN C k) wc (H_R.out.ext HWC.out) (HO_k.out.ext HWC.out) HL_k.out (by omega)).mono ?_
    rintro _ wd ⟨A9, q9, c9, rfl, ho, he⟩
    refine ⟨_, rfl, hK _ _ (ext_below he HWC.out.size) ?_⟩; clear hK K
    have hq9 := own_len2 ho
    rw [HQ7.out] at hq9
    subst hq9
    have HWD := hid (HWC.out.trans he)
    clear ho he HWC HQ7
    iterate 14 (refine wpZ_q (fun K hK => ?_); go_simp; refine hK _ ?_; clear hK K)
    refine wpZ_u ?_
    refine stepH_of (fun K hK => ?_)
    go_simp
    refine (HCK.out wd (H_R.out.ext HWD.out) (HO_k.out.ext HWD.out)).mono ?_
    rintro _ we ⟨rfl, he⟩
    refine ⟨_, rfl, hK _ _ (ext_below he HWD.out.size) ?_⟩; clear hK K
    have HWE := hid (HWD.out.trans he)
    clear he HWD
    (refine wpZ_q (fun K hK => ?_); go_simp; refine hK _ ?_; clear hK K)
    refine wpZ_u ?_
    refine stepH_of (fun K hK => ?_)
    go_simp
    refine (HFB.out we (H_R.out.ext HWE.out)).mono ?_
    rintro _ wf ⟨rfl, he⟩
    refine ⟨_, rfl, hK _ _ (ext_below he HWE.out.size) ?_⟩; clear hK K
    have HWF := hid (HWE.out.trans he)
    clear he HWE
    refine wpZ_u ?_
    refine stepH_of (fun K hK => ?_)
    go_simp
    refine (HTB.out wf).mono ?_
    rintro _ wg ⟨rfl, he⟩
    refine ⟨_, rfl, hK _ _ (ext_below he HWF.out.size) ?_⟩; clear hK K
    have HWG := hid (HWF.out.trans he)
    clear he HWF
    iterate 2 (refine wpZ_q (fun K hK => ?_); go_simp; refine hK _ ?_; clear hK K)
    ((first | refine wpZ_u ?_ | skip); refine stepH_of (fun K hK => ?_); go_simp; refine hK _ _ (Below.refl _ _) ?_; clear hK K)
    refine wpZ_nil ?_
    go_wp2_with fail
    go_ret
    exact ⟨rfl, H_E.out.trans (HWG.out.trans (by repeat (first | exact Ext.refl _ | refine Ext.alloc ?_ _ | assumption | refine Ext.over ?_ _ | refine Ext.drew ?_ | refine Ext.drewN ?_ _)))⟩
  · have hls : ls = 0 := HB0.out.1 (by omega)
    subst hls
    have HRZ2 := hid (fun w' (h : Row w' A (L.flatMap T2.v)) (h' : Row w' B (C.flatMap T7.v)) => gives_b (HRZ.out.trans (decide_eq_false hq0)) (HRB.out 0 w' h h'))
    have hq0' : (0 : Int) < q := by omega
    have hq0b : ((q : Int) == 0) = false := by rw [beq_eq_false_iff_ne]; omega
    go_wp2_with (first | (go_at_call 19; refine (HCT.out _ (HR4.out.ext (by repeat (first | exact Ext.refl _ | refine Ext.alloc ?_ _ | assumption | refine Ext.over ?_ _ | refine Ext.drew ?_ | refine Ext.drewN ?_ _))) (HC4.out.ext (by repeat (first | exact Ext.refl _ | refine Ext.alloc ?_ _ | assumption | refine Ext.over ?_ _ | refine Ext.drew ?_ | refine Ext.drewN ?_ _)))).over.mono ?_; rintro e w' ⟨rfl, xw, rfl⟩) | (go_at_call 20; refine (HWT.out _ (HR4.out.ext (by repeat (first | exact Ext.refl _ | refine Ext.alloc ?_ _ | assumption | refine Ext.over ?_ _ | refine Ext.drew ?_ | refine Ext.drewN ?_ _))) (HC4.out.ext (by repeat (first | exact Ext.refl _ | refine Ext.alloc ?_ _ | assumption | refine Ext.over ?_ _ | refine Ext.drew ?_ | refine Ext.drewN ?_ _)))).over.mono ?_; rintro e w' ⟨rfl, xw, rfl⟩))
    refine (HRZ2.out _ (HR4.out.ext (by repeat (first | exact Ext.refl _ | refine Ext.alloc ?_ _ | assumption | refine Ext.over ?_ _ | refine Ext.drew ?_ | refine Ext.drewN ?_ _))) (HC4.out.ext (by repeat (first | exact Ext.refl _ | refine Ext.alloc ?_ _ | assumption | refine Ext.over ?_ _ | refine Ext.drew ?_ | refine Ext.drewN ?_ _)))).mono ?_
    rintro _ w5 ⟨rfl, e5⟩
    have e5' : Ext w4 w5 := Ext.trans (by repeat (first | exact Ext.refl _ | refine Ext.alloc ?_ _ | assumption | refine Ext.over ?_ _ | refine Ext.drew ?_ | refine Ext.drewN ?_ _)) e5
    have r0 := old_cell e5' r0
    have p0 := old_cell e5' p0
    have p1 := old_cell e5' p1
    have HE5 := hid (HE4.out.trans e5')
    have HR5 := hid (HR4.out.ext e5')
    have HC5 := hid (HC4.out.ext e5')
    clear e5 e5' HE4 HR4 HC4
    go_wp2_with fail
    refine (HRT.out _ (HR5.out.ext (by repeat (first | exact Ext.refl _ | refine Ext.alloc ?_ _ | assumption | refine Ext.over ?_ _ | refine Ext.drew ?_ | refine Ext.drewN ?_ _))) (HC5.out.ext (by repeat (first | exact Ext.refl _ | refine Ext.alloc ?_ _ | assumption | refine Ext.over ?_ _ | refine Ext.drew ?_ | refine Ext.drewN ?_ _)))).mono ?_
    rintro _ w6 ⟨rfl, e6⟩
    have r0 := old_cell e6 r0
    have p0 := old_cell e6 p0
    have p1 := old_cell e6 p1
    have HE6 := hid (HE5.out.trans e6)
    have HR6 := hid (HR5.out.ext e6)
    have HC6 := hid (HC5.out.ext e6)
    clear e6 HE5 HR5 HC5
    go_wp2_with fail
    refine (HA1.out _ (HE6.out.trans (by repeat (first | exact Ext.refl _ | refine Ext.alloc ?_ _ | assumption | refine Ext.over ?_ _ | refine Ext.drew ?_ | refine Ext.drewN ?_ _)))).mono ?_
    rintro _ w7 ⟨rfl, e7⟩
    have e7' : Ext w6 w7 := Ext.trans (by repeat (first | exact Ext.refl _ | refine Ext.alloc ?_ _ | assumption | refine Ext.over ?_ _ | refine Ext.drew ?_ | refine Ext.drewN ?_ _)) e7
    have r0 := old_cell e7' r0
    have p0 := old_cell e7' p0
    have p1 := old_cell e7' p1
    have HE7 := hid (HE6.out.trans e7')
    have HR7 := hid (HR6.out.ext e7')
    have HC7 := hid (HC6.out.ext e7')
    have H_E := HE7
    have H_R := HR7
    have H_C := HC7
    clear e7 e7' HE6 HR6 HC6 HRZ2 HRT HWT HCT HA1 HE7 HR7 HC7
    obtain ⟨blk, off', hB, _⟩ := (H_C.out).t7 (show k < C.length by rw [HLM.out]; exact hkm)
    subst hB
    go_wp2_with fail
    obtain ⟨kq, hkq⟩ : ∃ kq, kq = k + 1 := ⟨_, rfl⟩
    have hw : IntKind.i64.wrap ((k : Int) + 1) = (kq : Int) := by rw [IntWalk.i64_in _ (by omega)]; omega
    have hkd : k ≤ d := by omega
    have hkd' : (k : Int) ≤ d := by omega
    have hk0 : (0 : Int) ≤ k := by omega
    have hq1 : kq ≤ m := by omega
    have hq1' : (kq : Int) ≤ m := by omega
    have hd' : (m : Int) ≤ d := by omega
    have HQ := hid hkq
    clear hkq
    refine wp_region_x [.q 1, .q 2, .q 3, .q 5, .q 6, .q 7, .q 8, .u 0, .u 4, .u 9, .u 10] (by kernel_rfl) (by kernel_rfl) (fun wa ea => ?_)
    have ea' : Ext w7 wa := Ext.trans (by repeat (first | exact Ext.refl _ | refine Ext.alloc ?_ _ | assumption | refine Ext.over ?_ _ | refine Ext.drew ?_ | refine Ext.drewN ?_ _)) ea
    have HRa := hid (restN_flat (H_C.out.ext ea') k)
    have HRR := hid (show Row wa (if d = kq then some ⟨blk, off', none⟩ else some ⟨blk, off' + kq * 7, none⟩) ((C.drop kq).flatMap T7.v) by
      split
      · rw [List.drop_eq_nil_of_le (by have := HLM.out; omega)]; exact fun h => absurd rfl h
      · rw [HQ.out]; exact HRa.out.2)
    have HEN := hid (show (if d = kq then some (⟨blk, off', none⟩ : Addr) else some ⟨blk, off' + kq * 7, none⟩) = none → d - kq = 0 by split <;> intro h <;> cases h)
    have HX := hid ea'
    clear ea ea'
    simp only [pick, List.getElem?_cons_succ, List.getElem?_cons_zero]
    repeat (refine wpZ_q (fun K hK => ?_); go_simp; refine hK _ ?_; clear hK K)
    generalize (if d = kq then some (⟨blk, off', none⟩ : Addr) else some ⟨blk, off' + kq * 7, none⟩) = EA at HRR HEN ⊢
    refine wpZ_u ?_
    refine stepH_of (fun K hK => ?_)
    go_simp
    refine hK _ _ (Below.alloc (Below.refl _ _) (Nat.le_refl _) _) ?_; clear hK K
    have HO4 := hid (own_empty wa wa.heap.size wa.heap.size rfl (Nat.le_refl _) 30 7)
    refine wpZ_u ?_
    refine stepH_of (fun K hK => ?_)
    rw [if_pos (by rfl)]
    refine her_pushS wa (.tmp 100) (.tmp 103) 41 rfl 30 Try.underlying41 info_CameraW rfl (by decide) _ 0 [] rfl HO4.out (by repeat (first | exact Ext.refl _ | refine Ext.alloc ?_ _ | assumption | refine Ext.over ?_ _ | refine Ext.drew ?_ | refine Ext.drewN ?_ _)) (some ⟨blk, off', none⟩) k d ((C.take k).flatMap T7.v) rfl (by intro h; cases h) (by rw [flat_len _ 7 T7.len, List.length_take, HLM.out]; congr 1; omega) (HRa.out.1.ext (by repeat (first | exact Ext.refl _ | refine Ext.alloc ?_ _ | assumption | refine Ext.over ?_ _ | refine Ext.drew ?_ | refine Ext.drewN ?_ _))) one7 (by omega) (by decide) ?_
    intro A5 c5 wb ho5 he5 hg5
    refine hK _ _ (grown_below hg5 HO4.out (Nat.le_refl _) (by simp)) ?_; clear hK K
    rw [Nat.zero_add, List.nil_append] at ho5
    rw [Nat.zero_add]
    have HO5 := hid ho5
    have HE5 := hid he5
    clear ho5 he5 hg5
    refine wpZ_u ?_
    refine stepH_of (fun K hK => ?_)
    rw [if_pos (by rfl)]
    refine her_pushS wa (.tmp 104) (.tmp 108) 41 rfl 30 Try.underlying41 info_CameraW rfl (by decide) _ k ((C.take k).flatMap T7.v) rfl HO5.out HE5.out EA (m - kq) (d - kq) ((C.drop kq).flatMap T7.v) rfl HEN.out (by rw [flat_len _ 7 T7.len, List.length_drop, HLM.out]) (HRR.out.ext HE5.out) one7 (by omega) (by decide) ?_
    intro A_k c_k w8 ho6 he6 hg6
    refine hK _ _ (grown_below hg6 HO5.out (Nat.le_refl _) HE5.out.size) ?_; clear hK K
    have HO_k := hid (show Row w8 A_k ((restN C k).flatMap T7.v) from Row.of_own (show w8.ownsRow wa.heap.size 30 7 (.slice A_k (k + (m - kq)) c_k) (k + (m - kq)) ((restN C k).flatMap T7.v) by unfold restN; rw [List.flatMap_append, ← HQ.out]; exact ho6))
    have hrl := restN_len (l := C) (k := k) (by rw [HLM.out]; exact hkm)
    have HL_k := hid (show (restN C k).length = k + (m - kq) by rw [hrl, HLM.out]; have := HQ.out; omega)
    have ex := HX.out.trans he6
    have r0 := old_cell ex r0
    have p0 := old_cell ex p0
    have p1 := old_cell ex p1
    have H_E := hid (H_E.out.trans ex)
    have H_R := hid (H_R.out.ext ex)
    have H_C := hid (H_C.out.ext ex)

    generalize k + (m - kq) = n_k at HL_k ⊢
    clear he6 hg6 ho6 HO5 HE5 HO4 HRa hrl ex HX HQ HRR HEN hw hkd hkd' hk0 hq1 hq1' hd'
    ((first | refine wpZ_u ?_ | skip); refine stepH_of (fun K hK => ?_); go_simp; refine hK _ _ (Below.refl _ _) ?_; clear hK K)
    refine wpZ_nil ?_
    go_wp2_with fail
    obtain ⟨kq, hkq⟩ : ∃ kq, kq = i + 1 := ⟨_, rfl⟩
    have hw : IntKind.i64.wrap ((i : Int) + 1) = (kq : Int) := by rw [IntWalk.i64_in _ (by omega)]; omega
    have hkd : i ≤ d := by omega
    have hkd' : (i : Int) ≤ d := by omega
    have hk0 : (0 : Int) ≤ i := by omega
    have hq1 : kq ≤ m := by omega
    have hq1' : (kq : Int) ≤ m := by omega
    have hd' : (m : Int) ≤ d := by omega
    have HQ := hid hkq
    clear hkq
    refine wp_region_x [.q 1, .q 2, .q 3, .q 5, .q 6, .q 7, .q 8, .u 0, .u 4, .u 9, .u 10] (by kernel_rfl) (by kernel_rfl) (fun wa ea => ?_)
    have ea' : Ext w8 wa := Ext.trans (by repeat (first | exact Ext.refl _ | refine Ext.alloc ?_ _ | assumption | refine Ext.over ?_ _ | refine Ext.drew ?_ | refine Ext.drewN ?_ _)) ea
    have HRa := hid (restN_flat (H_C.out.ext ea') i)
    have HRR := hid (show Row wa (if d = kq then some ⟨blk, off', none⟩ else some ⟨blk, off' + kq * 7, none⟩) ((C.drop kq).flatMap T7.v) by
      split
      · rw [List.drop_eq_nil_of_le (by have := HLM.out; omega)]; exact fun h => absurd rfl h
      · rw [HQ.out]; exact HRa.out.2)
    have HEN := hid (show (if d = kq then some (⟨blk, off', none⟩ : Addr) else some ⟨blk, off' + kq * 7, none⟩) = none → d - kq = 0 by split <;> intro h <;> cases h)
    have HX := hid ea'
    clear ea ea'
    simp only [pick, List.getElem?_cons_succ, List.getElem?_cons_zero]
    repeat (refine wpZ_q (fun K hK => ?_); go_simp; refine hK _ ?_; clear hK K)
    generalize (if d = kq then some (⟨blk, off', none⟩ : Addr) else some ⟨blk, off' + kq * 7, none⟩) = EA at HRR HEN ⊢
    refine wpZ_u ?_
    refine stepH_of (fun K hK => ?_)
    go_simp
    refine hK _ _ (Below.alloc (Below.refl _ _) (Nat.le_refl _) _) ?_; clear hK K
    have HO4 := hid (own_empty wa wa.heap.size wa.heap.size rfl (Nat.le_refl _) 30 7)
    refine wpZ_u ?_
    refine stepH_of (fun K hK => ?_)
    rw [if_pos (by rfl)]
    refine her_pushS wa (.tmp 110) (.tmp 113) 41 rfl 30 Try.underlying41 info_CameraW rfl (by decide) _ 0 [] rfl HO4.out (by repeat (first | exact Ext.refl _ | refine Ext.alloc ?_ _ | assumption | refine Ext.over ?_ _ | refine Ext.drew ?_ | refine Ext.drewN ?_ _)) (some ⟨blk, off', none⟩) i d ((C.take i).flatMap T7.v) rfl (by intro h; cases h) (by rw [flat_len _ 7 T7.len, List.length_take, HLM.out]; congr 1; omega) (HRa.out.1.ext (by repeat (first | exact Ext.refl _ | refine Ext.alloc ?_ _ | assumption | refine Ext.over ?_ _ | refine Ext.drew ?_ | refine Ext.drewN ?_ _))) one7 (by omega) (by decide) ?_
    intro A5 c5 wb ho5 he5 hg5
    refine hK _ _ (grown_below hg5 HO4.out (Nat.le_refl _) (by simp)) ?_; clear hK K
    rw [Nat.zero_add, List.nil_append] at ho5
    rw [Nat.zero_add]
    have HO5 := hid ho5
    have HE5 := hid he5
    clear ho5 he5 hg5
    refine wpZ_u ?_
    refine stepH_of (fun K hK => ?_)
    rw [if_pos (by rfl)]
    refine her_pushS wa (.tmp 114) (.tmp 118) 41 rfl 30 Try.underlying41 info_CameraW rfl (by decide) _ i ((C.take i).flatMap T7.v) rfl HO5.out HE5.out EA (m - kq) (d - kq) ((C.drop kq).flatMap T7.v) rfl HEN.out (by rw [flat_len _ 7 T7.len, List.length_drop, HLM.out]) (HRR.out.ext HE5.out) one7 (by omega) (by decide) ?_
    intro A_i c_i w9 ho6 he6 hg6
    refine hK _ _ (grown_below hg6 HO5.out (Nat.le_refl _) HE5.out.size) ?_; clear hK K
    have HO_i := hid (show Row w9 A_i ((restN C i).flatMap T7.v) from Row.of_own (show w9.ownsRow wa.heap.size 30 7 (.slice A_i (i + (m - kq)) c_i) (i + (m - kq)) ((restN C i).flatMap T7.v) by unfold restN; rw [List.flatMap_append, ← HQ.out]; exact ho6))
    have hrl := restN_len (l := C) (k := i) (by rw [HLM.out]; exact hi)
    have HL_i := hid (show (restN C i).length = i + (m - kq) by rw [hrl, HLM.out]; have := HQ.out; omega)
    have ex := HX.out.trans he6
    have r0 := old_cell ex r0
    have p0 := old_cell ex p0
    have p1 := old_cell ex p1
    have H_E := hid (H_E.out.trans ex)
    have H_R := hid (H_R.out.ext ex)
    have H_C := hid (H_C.out.ext ex)
    have HO_k := hid (HO_k.out.ext ex)
    generalize i + (m - kq) = n_i at HL_i ⊢
    clear he6 hg6 ho6 HO5 HE5 HO4 HRa hrl ex HX HQ HRR HEN hw hkd hkd' hk0 hq1 hq1' hd'
    ((first | refine wpZ_u ?_ | skip); refine stepH_of (fun K hK => ?_); go_simp; refine hK _ _ (Below.refl _ _) ?_; clear hK K)
    refine wpZ_nil ?_
    go_wp2_with fail
    refine wp_region_x [.q 0, .q 1, .q 4, .q 5, .u 2, .q 3, .q 6, .q 7, .q 8, .q 9, .q 12, .q 13, .u 10, .q 11, .u 14, .q 15, .q 16, .q 17, .q 18, .q 19, .q 20, .q 21, .q 22, .q 25, .q 26, .q 27, .q 28, .q 29, .q 30, .u 23, .q 24, .u 31, .u 32, .q 33, .q 34, .u 35] (by kernel_rfl) (by kernel_rfl) (fun wa ea => ?_)
    have ea' : Ext w9 wa := Ext.trans (by repeat (first | exact Ext.refl _ | refine Ext.alloc ?_ _ | assumption | refine Ext.over ?_ _ | refine Ext.drew ?_ | refine Ext.drewN ?_ _)) ea
    have r0 := old_cell ea' r0
    have p0 := old_cell ea' p0
    have p1 := old_cell ea' p1
    have H_E := hid (H_E.out.trans ea')
    have H_R := hid (H_R.out.ext ea')
    have HO_k := hid (HO_k.out.ext ea')
    have HO_i := hid (HO_i.out.ext ea')
    obtain ⟨blk2, off2, hB2, hcx⟩ := (H_C.out.ext ea').t7 (show k < C.length by rw [HLM.out]; exact hkm)
    injection hB2 with hB2
    injection hB2 with hb1 hb2
    subst hb1 hb2
    obtain ⟨x0, x1, x2, x3, x4, x5, x6⟩ := hcx k (by rw [HLM.out]; exact hkm)
    have HCR := hid (countR_rest (L := L) (C := C) (p := p) (k := k) (by rw [HLM.out]; exact hkm))
    have HCB := hid (countR_le L C p)
    have HBK := hid (HBR.out k (by rw [HLM.out]; exact hkm))
    have HBI := hid (HBST.out k (by rw [HLM.out]; exact hkm))
    obtain ⟨x, hx⟩ : ∃ x, x = at7 C k := ⟨_, rfl⟩
    rw [← hx] at x0 x1 x2 x3 x4 x5 x6 HCR
    obtain ⟨fb, hfb⟩ : ∃ fb, fb = filmR L x p := ⟨_, rfl⟩
    have HFB := hid (fun w' (h : Row w' A (L.flatMap T2.v)) => gives_b (show filmR L ⟨x.a, x.b, x.c, x.d, x.e, x.f, x.g⟩ ⟨p.a, p.b⟩ = fb from hfb.symm) (HFI.out x.a x.b x.c x.d x.e x.f x.g p.a p.b w' h))
    rw [← hfb] at HCR
    obtain ⟨tb, htb⟩ : ∃ tb : Int, tb = if fb then 1 else 0 := ⟨_, rfl⟩
    have HTB := hid (fun w' => gives_v htb.symm (btoi_any fb w'))
    obtain ⟨cr, hcr⟩ : ∃ cr, cr = countR L (restN C k) p := ⟨_, rfl⟩
    have HCK := hid (fun w' (h : Row w' A (L.flatMap T2.v)) (h' : Row w' A_k ((restN C k).flatMap T7.v)) => gives_v (congrArg Nat.cast hcr.symm) (HCO.out A_k n_k c_k (restN C k) p.a p.b w' h h' HL_k.out (by have := HL_k.out; have := restN_len (l := C) (k := k) (by rw [HLM.out]; exact hkm); omega)))
    have heq : IntKind.i64.wrap ((cn : Int) - cr) = tb := by
      have h1 := HCR.out
      have h2 := HCB.out
      rw [← HCNE.out, ← hcr] at h1
      rw [← HCNE.out] at h2
      rw [IntWalk.i64_in _ (by omega), htb]
      cases fb <;> simp at h1 ⊢ <;> omega
    have hnk : n_k ≤ 6 := by have := HL_k.out; have := restN_len (l := C) (k := k) (by rw [HLM.out]; exact hkm); omega
    have hni : n_i ≤ 6 := by have := HL_i.out; have := restN_len (l := C) (k := i) (by rw [HLM.out]; exact hi); omega
    clear ea ea' hcx hx hfb htb hcr HCR HCB H_C
    simp only [pick, List.getElem?_cons_succ, List.getElem?_cons_zero]
    repeat (refine wpZ_q (fun K hK => ?_); go_simp; refine hK _ ?_; clear hK K)
    refine wpZ_u ?_
    refine stepH_of (fun K hK => ?_)
    go_simp
    refine (HBL.out A_k n_k c_k (restN C k) wa H_R.out HO_k.out HL_k.out (by omega)).mono ?_
    rintro _ wb ⟨A7, q7, c7, rfl, ho, he⟩
    refine ⟨_, rfl, hK _ _ (ext_below he (Nat.le_refl _)) ?_⟩; clear hK K
    have hq7 := own_len2 ho
    have HWB := hid he
    have hk7 := HBK.out
    have hi7 := HBI.out
    rw [hq7] at hk7 hi7
    have hk7' : (q : Int) ≤ q7 := by omega
    have HQ7 := hid hq7
    clear ho he hq7 HBK HBI
    iterate 7 (refine wpZ_q (fun K hK => ?_); go_simp; refine hK _ ?_; clear hK K)
    refine wpZ_u ?_
    refine stepH_of (fun K hK => ?_)
    go_simp
    refine (HBL.out A_i n_i c_i (restN C i) wb (H_R.out.ext HWB.out) (HO_i.out.ext HWB.out) HL_i.out (by omega)).mono ?_
    rintro _ wc ⟨A8, q8, c8, rfl, ho, he⟩
    refine ⟨_, rfl, hK _ _ (ext_below he HWB.out.size) ?_⟩; clear hK K
    have hq8 := own_len2 ho
    rw [hq8] at hi7
    have hi7' : (q7 : Int) ≤ q8 := by omega
    have HWC := hid (HWB.out.trans he)
    clear ho he hq8 HWB
    (refine wpZ_q (fun K hK => ?_); go_simp; refine hK _ ?_; clear hK K)
    refine wpZ_u ?_
    refine stepH_of (fun K hK => ?_)
    go_simp
    refine (HBL.out A_k n_k c_k (restN C k) wc (H_R.out.ext HWC.out) (HO_k.out.ext HWC.out) HL_k.out (by omega)).mono ?_
    rintro _ wd ⟨A9, q9, c9, rfl, ho, he⟩
    refine ⟨_, rfl, hK _ _ (ext_below he HWC.out.size) ?_⟩; clear hK K
    have hq9 := own_len2 ho
    rw [HQ7.out] at hq9
    subst hq9
    have HWD := hid (HWC.out.trans he)
    clear ho he HWC HQ7
    iterate 14 (refine wpZ_q (fun K hK => ?_); go_simp; refine hK _ ?_; clear hK K)
    refine wpZ_u ?_
    refine stepH_of (fun K hK => ?_)
    go_simp
    refine (HCK.out wd (H_R.out.ext HWD.out) (HO_k.out.ext HWD.out)).mono ?_
    rintro _ we ⟨rfl, he⟩
    refine ⟨_, rfl, hK _ _ (ext_below he HWD.out.size) ?_⟩; clear hK K
    have HWE := hid (HWD.out.trans he)
    clear he HWD
    (refine wpZ_q (fun K hK => ?_); go_simp; refine hK _ ?_; clear hK K)
    refine wpZ_u ?_
    refine stepH_of (fun K hK => ?_)
    go_simp
    refine (HFB.out we (H_R.out.ext HWE.out)).mono ?_
    rintro _ wf ⟨rfl, he⟩
    refine ⟨_, rfl, hK _ _ (ext_below he HWE.out.size) ?_⟩; clear hK K
    have HWF := hid (HWE.out.trans he)
    clear he HWE
    refine wpZ_u ?_
    refine stepH_of (fun K hK => ?_)
    go_simp
    refine (HTB.out wf).mono ?_
    rintro _ wg ⟨rfl, he⟩
    refine ⟨_, rfl, hK _ _ (ext_below he HWF.out.size) ?_⟩; clear hK K
    have HWG := hid (HWF.out.trans he)
    clear he HWF
    iterate 2 (refine wpZ_q (fun K hK => ?_); go_simp; refine hK _ ?_; clear hK K)
    ((first | refine wpZ_u ?_ | skip); refine stepH_of (fun K hK => ?_); go_simp; refine hK _ _ (Below.refl _ _) ?_; clear hK K)
    refine wpZ_nil ?_
    go_wp2_with fail
    go_ret
    exact ⟨rfl, H_E.out.trans (HWG.out.trans (by repeat (first | exact Ext.refl _ | refine Ext.alloc ?_ _ | assumption | refine Ext.over ?_ _ | refine Ext.drew ?_ | refine Ext.drewN ?_ _)))⟩
end fnCoverage
end Go.Proofs.Ytelmpiaaaffmlaa
