/- The walk of FnPieces: it returns true. Conditions: its arguments read as lists. (P21) -/
import Derived.Test.YtkifapcegiajiaaMFnPieces
namespace Go.Proofs.Ytkifapcegiajiaa
open Go.RowKit
set_option linter.unusedVariables false
namespace fnPieces
theorem two_waysP {G P : Prop} (h : P → G) (p : P) : G := h p
/-- A row of literals is kept where another row of the call's own grows. -/
theorem lit_kept {w w' wa : World} {b n size : Nat} {e : TypeId} {v : Value} {xs l : List Value} (hc : ∀ (j : Nat) (u : Value), l[j]? = some u → w.cell? ((⟨b, 0, none⟩ : Addr).add j) = some u) (ho : w.ownsRow wa.heap.size e size v n xs) (hg : w.grownBy w' v.ownBlock) (hne : ¬ v.ownBlock = some b) :
    ∀ (j : Nat) (u : Value), l[j]? = some u → w'.cell? ((⟨b, 0, none⟩ : Addr).add j) = some u := fun j u hu => by
  have h := hc j u hu
  rw [show (⟨b, 0, none⟩ : Addr).add j = ⟨b, 0 + j, none⟩ from by unfold Addr.add; split <;> simp_all] at h ⊢
  have hb : w'.heap[b]? = w.heap[b]? := hg.block b (World.block_lt_of_cell? w _ h) (fun e => hne e.symm)
  exact (World.cell?_of_block (a := ⟨b, 0 + j, none⟩) hb).trans h
set_option maxHeartbeats 4000000 in
set_option maxRecDepth 100000 in
theorem walk (w : World) (A0 : Option Addr) (n0 c0 : Nat) (zs0 : List Int) (hr0 : Row w A0 (zs0.map (Value.int .u8))) (hl0 : zs0.length = n0) (hn0 : n0 ≤ maxLen) (hz0 : ∀ z ∈ zs0, 0 ≤ z ∧ z ≤ 255) : Gives Try.prog 5 #[.slice A0 n0 c0] w (.bool true) := by
  unfold maxLen at hn0
  have HZ := hid hz0
  clear hz0
  by_cases hbig : (1048576 : Int) < n0
  · have hb := decide_eq_true hbig
    (unfold Gives; go_enter Try.func5, Try.ntmps5)
    go_wp2_with (go_at_call 16; refine (gives_b hb (big_any _ _ _ _)).over.mono ?_; rintro e w' ⟨rfl, xw, rfl⟩)
    go_ret
    exact ⟨rfl, by repeat (first | exact Ext.refl _ | refine Ext.alloc ?_ _ | assumption | refine Ext.over ?_ _ | refine Ext.drew ?_ | refine Ext.drewN ?_ _)⟩
  have hb := decide_eq_false hbig
  have HAT := hid (fun (i : Nat) w' (e : Ext w w') (hi : i ≤ 100) => at_any A0 n0 c0 zs0 i w' (hr0.ext e) hl0 (by omega) hi HZ.out)
  have HAB := hid (atV_bound HZ.out)
  (unfold Gives; go_enter Try.func5, Try.ntmps5)
  go_wp2_with (go_at_call 16; refine (gives_b hb (big_any _ _ _ _)).over.mono ?_; rintro e w' ⟨rfl, xw, rfl⟩)
  refine (DrawSight_any A0 n0 c0 zs0 _ (hr0.ext (by repeat (first | exact Ext.refl _ | refine Ext.alloc ?_ _ | assumption | refine Ext.over ?_ _ | refine Ext.drew ?_ | refine Ext.drewN ?_ _))) hl0 (by omega) HZ.out).mono ?_
  rintro _ w1 ⟨A, n, c, L, a, b, rfl, hll, hro, hfa, hfb, hla, he⟩
  have hn10 : n ≤ 10 := by have := (roomP_of hro).hi; omega
  have hn3 : 3 ≤ n := by have := (roomP_of hro).lo; omega
  have hia := floor_in hro hfa
  have hib := floor_in hro hfb
  obtain ⟨N, hN⟩ : ∃ N, N = bestS L b a := ⟨_, rfl⟩
  have HNV := hid (show pcs L a b = N by unfold pcs; rw [hia, hib, hN]; rfl)
  have HNW := hid (show pcs L b a = N by unfold pcs; rw [hia, hib, hN]; exact best_symm hro hfa hfb)
  have HWY := hid (way_facts hro hfa hfb)
  have HE := hid (Ext.trans (show Ext w _ by repeat (first | exact Ext.refl _ | refine Ext.alloc ?_ _ | assumption | refine Ext.over ?_ _ | refine Ext.drew ?_ | refine Ext.drewN ?_ _)) he)
  have HA := hid hla
  have HLL := hid hll
  have HRO := hid hro
  have HFA := hid hfa
  have HFB := hid hfb
  have HPC := hid (fun p q w' (h : Row w' A (L.flatMap T2.v)) => pieces_any A n c L p q w' h hll (by omega))
  have HAI := hid (show (isIn L a && isIn L b) = true by rw [hia, hib]; rfl)
  have HBD := hid (bestS_bound L b a)
  rw [← hN] at HBD
  have hNb := HBD.out
  rw [hll] at hNb
  replace hN := hid hN
  unfold ptV at HPC
  clear hla hll hro hfa hfb hia hib he hbig hb hr0 hl0
  have hn1 : ¬ (n : Int) = 0 := by omega
  have hn0' : 0 < n := by omega
  have b0 := (show (((w1.alloc (.cells #[.slice A n c] 33)).alloc (.cells #[.int .i64 a.a, .int .i64 a.b] 35)).alloc (.cells #[.int .i64 b.a, .int .i64 b.b] 35)).cell? ⟨w1.heap.size, 0, none⟩ = some (.slice A n c) by go_simp)
  have b1 := (show (((w1.alloc (.cells #[.slice A n c] 33)).alloc (.cells #[.int .i64 a.a, .int .i64 a.b] 35)).alloc (.cells #[.int .i64 b.a, .int .i64 b.b] 35)).cell? ⟨w1.heap.size + 1, 0, none⟩ = some (.int .i64 a.a) by go_simp)
  have b2 := (show (((w1.alloc (.cells #[.slice A n c] 33)).alloc (.cells #[.int .i64 a.a, .int .i64 a.b] 35)).alloc (.cells #[.int .i64 b.a, .int .i64 b.b] 35)).cell? ⟨w1.heap.size + 1, 1, none⟩ = some (.int .i64 a.b) by go_simp)
  have b3 := (show (((w1.alloc (.cells #[.slice A n c] 33)).alloc (.cells #[.int .i64 a.a, .int .i64 a.b] 35)).alloc (.cells #[.int .i64 b.a, .int .i64 b.b] 35)).cell? ⟨w1.heap.size + 1 + 1, 0, none⟩ = some (.int .i64 b.a) by go_simp)
  have b4 := (show (((w1.alloc (.cells #[.slice A n c] 33)).alloc (.cells #[.int .i64 a.a, .int .i64 a.b] 35)).alloc (.cells #[.int .i64 b.a, .int .i64 b.b] 35)).cell? ⟨w1.heap.size + 1 + 1, 1, none⟩ = some (.int .i64 b.b) by go_simp)
  have EW := hid (show Ext w1 (((w1.alloc (.cells #[.slice A n c] 33)).alloc (.cells #[.int .i64 a.a, .int .i64 a.b] 35)).alloc (.cells #[.int .i64 b.a, .int .i64 b.b] 35)) by repeat (first | exact Ext.refl _ | refine Ext.alloc ?_ _ | assumption | refine Ext.over ?_ _ | refine Ext.drew ?_ | refine Ext.drewN ?_ _))
  go_wp2_with fail
  refine (gives_v HNV.out (HPC.out a b _ (HA.out.ext EW.out))).mono ?_
  generalize ((w1.alloc (.cells #[.slice A n c] 33)).alloc (.cells #[.int .i64 a.a, .int .i64 a.b] 35)).alloc (.cells #[.int .i64 b.a, .int .i64 b.b] 35) = wb at b0 b1 b2 b3 b4 EW ⊢
  rintro _ w2 ⟨rfl, he⟩
  have b0 := old_cell he b0
  have b1 := old_cell he b1
  have b2 := old_cell he b2
  have b3 := old_cell he b3
  have b4 := old_cell he b4
  have HE2 := hid (HE.out.trans (EW.out.trans he))
  have HA2 := hid ((HA.out.ext EW.out).ext he)
  clear he EW HE HA
  generalize w1.heap.size + 1 + 1 = bb at b3 b4 ⊢
  generalize w1.heap.size + 1 = ba at b1 b2 ⊢
  generalize w1.heap.size = br at b0 ⊢
  go_wp2_with fail
  have hb0 := HAB.out 0
  have HV0 := hid (HAT.out 0)
  generalize atV zs0 0 = av at hb0 HV0
  obtain ⟨k, hk⟩ : ∃ k : Nat, av % (n : Int) = k := ⟨(av % (n : Int)).toNat, by
    have := Int.emod_nonneg av (show (n : Int) ≠ 0 by omega); omega⟩
  have hkn : k < n := by have := Int.emod_lt_of_pos av (show (0 : Int) < n by omega); omega
  have htm : av.tmod (n : Int) = (k : Int) := by rw [Int.tmod_eq_emod_of_nonneg hb0.1]; exact hk
  have hknt : (k : Int) < n := by omega
  have hw : IntKind.i64.wrap (k : Int) = k := IntWalk.i64_in _ (by omega)
  have hz0 : ¬ n = 0 := by omega
  have HKN := hid hkn
  have hkl : k < L.length := by have := HLL.out; omega
  have HFC := hid (floor_corner HRO.out hkl)
  have HTR := hid (best_tri HRO.out HFA.out HFB.out hkl)
  obtain ⟨bk, off, hA, hc⟩ := HA2.out.t2 hkl
  obtain ⟨c1, c2⟩ := hc k hkl
  subst hA
  clear hk hc
  apply two_waysP
  case h =>
    intro KEY0
    have KEY := hid KEY0
    clear KEY0
    refine wp_region_t (.q 0 (.q 1 (.q 2 (.q 4 (.q 5 (.q 6 (.b 3 10 (.q 7 (.q 8 (.q 9 (.u 10 (.u 11 .nil))))) (.u 3 (.q 7 (.q 8 (.q 9 (.u 11 .nil))))))))))))  (by kernel_rfl) (by kernel_rfl) (fun w4 e4 => ?_)
    have b0 := old_cell e4 b0
    have b1 := old_cell e4 b1
    have b2 := old_cell e4 b2
    have b3 := old_cell e4 b3
    have b4 := old_cell e4 b4
    have HE4 := hid (HE2.out.trans e4)
    have HA4 := hid (HA2.out.ext e4)
    have c1 := old_cell e4 c1
    have c2 := old_cell e4 c2
    clear e4
    simp only [pickT, List.getElem?_cons_succ, List.getElem?_cons_zero]
    repeat (refine wpW_q (fun K hK => ?_); go_simp; refine hK _ ?_; clear hK K)
    refine wpW_b ?_ ?_
    · refine stepH_of (fun K hK => ?_)
      go_simp
      refine (HV0.out _ HE4.out (by omega)).mono ?_
      rintro _ w5 ⟨rfl, e5⟩
      refine ⟨_, rfl, hK _ _ (ext_below e5 (Nat.le_refl _)) ?_⟩; clear hK K
      (refine wpW_q (fun K hK => ?_); go_simp; refine hK _ ?_; clear hK K)
      (refine wpW_q (fun K hK => ?_); go_simp; refine hK _ ?_; clear hK K)
      (refine wpW_q (fun K hK => ?_); go_simp; refine hK _ ?_; clear hK K)
      refine wpW_u ?_
      refine stepH_of (fun K hK => ?_)
      go_simp
      refine hK _ _ (Below.alloc (Below.refl _ _) e5.size _) ?_; clear hK K
      refine wpW_u ?_
      refine stepH_of (fun K hK => ?_)
      go_simp
      refine hK _ _ (below_again e5.size _ _) ?_; clear hK K
      refine wpW_nil ?_
      have ex := (show Ext w4 (w5.alloc (.cells #[.int .i64 (at2 L k).a, .int .i64 (at2 L k).b] 35)) from e5.trans (by repeat (first | exact Ext.refl _ | refine Ext.alloc ?_ _ | assumption | refine Ext.over ?_ _ | refine Ext.drew ?_ | refine Ext.drewN ?_ _)))
      have F := hid (And.intro (HE4.out.trans ex) (And.intro (HA4.out.ext ex) (And.intro (old_cell ex b0) (And.intro (old_cell ex b1) (And.intro (old_cell ex b2) (And.intro (old_cell ex b3) (And.intro (old_cell ex b4) (And.intro (show (w5.alloc (.cells #[.int .i64 (at2 L k).a, .int .i64 (at2 L k).b] 35)).cell? ⟨w5.heap.size, 0, none⟩ = some (.int .i64 (at2 L k).a) by go_simp) (show (w5.alloc (.cells #[.int .i64 (at2 L k).a, .int .i64 (at2 L k).b] 35)).cell? ⟨w5.heap.size, 1, none⟩ = some (.int .i64 (at2 L k).b) by go_simp)))))))))
      generalize w5.alloc (.cells #[.int .i64 (at2 L k).a, .int .i64 (at2 L k).b] 35) = w6 at F ⊢
      generalize w5.heap.size = bc at F ⊢
      clear ex e5 HE4 HA4 b0 b1 b2 b3 b4 c1 c2
      revert F
      revert bc
      revert w6
      exact KEY.out
    · refine stepH_of (fun K hK => ?_)
      go_simp
      refine hK _ _ (Below.alloc (Below.refl _ _) (Nat.le_refl _) _) ?_; clear hK K
      obtain ⟨wx, hwx⟩ : ∃ wx, wx = w4.alloc (.cells #[.int .i64 0, .int .i64 0] 35) := ⟨_, rfl⟩
      have ex := (show Ext w4 wx by rw [hwx]; repeat (first | exact Ext.refl _ | refine Ext.alloc ?_ _ | assumption | refine Ext.over ?_ _ | refine Ext.drew ?_ | refine Ext.drewN ?_ _))
      have HT := hid (show Two wx w4.heap.size 0 0 from ⟨by rw [hwx]; go_simp, by rw [hwx]; go_simp, by rw [hwx]; go_simp, by rw [hwx]; go_simp⟩)
      rw [← hwx]
      clear hwx
      refine wpW_u ?_
      refine stepH_of (fun K hK => ?_)
      go_simp
      refine (HV0.out _ (HE4.out.trans ex) (by omega)).mono ?_
      rintro _ w5 ⟨rfl, e5⟩
      refine ⟨_, rfl, hK _ _ (ext_below e5 ex.size) ?_⟩; clear hK K
      (refine wpW_q (fun K hK => ?_); go_simp; refine hK _ ?_; clear hK K)
      (refine wpW_q (fun K hK => ?_); go_simp; refine hK _ ?_; clear hK K)
      (refine wpW_q (fun K hK => ?_); go_simp; refine hK _ ?_; clear hK K)
      have ht := HT.out.ext e5
      obtain ⟨y0, y1, y2, y3⟩ := ht
      have ey := ex.trans e5
      refine wpW_u ?_
      refine stepH_of (fun K hK => ?_)
      go_simp
      refine hK _ _ (Below.setCell (Below.setCell (Below.refl _ _) (p := ⟨w4.heap.size, 0, none⟩) (Nat.le_refl _) _) (p := ⟨w4.heap.size, 1, none⟩) (Nat.le_refl _) _) ?_; clear hK K
      refine wpW_nil ?_
      have ez := (ey.setCell (p := ⟨w4.heap.size, 0, none⟩) (Nat.le_refl _) (.int .i64 (at2 L k).a)).setCell (p := ⟨w4.heap.size, 1, none⟩) (Nat.le_refl _) (.int .i64 (at2 L k).b)
      have hp := Two.put (x' := (at2 L k).a) (y' := (at2 L k).b) (show Two w5 w4.heap.size 0 0 from ⟨y0, y1, y2, y3⟩)
      have F := hid (And.intro (HE4.out.trans ez) (And.intro (HA4.out.ext ez) (And.intro (old_cell ez b0) (And.intro (old_cell ez b1) (And.intro (old_cell ez b2) (And.intro (old_cell ez b3) (And.intro (old_cell ez b4) (And.intro hp.1 hp.2.1))))))))
      clear hp
      generalize (w5.setCell ⟨w4.heap.size, 0, none⟩ (.int .i64 (at2 L k).a)).setCell ⟨w4.heap.size, 1, none⟩ (.int .i64 (at2 L k).b) = w6 at F ez ⊢
      clear ez ey ex HT y0 y1 y2 y3
      generalize w4.heap.size = bc at F ⊢
      clear e5 HE4 HA4 b0 b1 b2 b3 b4 c1 c2
      revert F
      revert bc
      revert w6
      exact KEY.out
  intro w3 bc F
  obtain ⟨hE, hA, b0, b1, b2, b3, b4, b5, b6⟩ := F.out
  have HE3 := hid hE
  have HA3 := hid hA
  clear F hE hA HE2 HA2 c1 c2
  go_wp2_with fail
  refine (iWay_at (some ⟨bk, off, none⟩) n c L a.a a.b b.a b.b w3 HA3.out HLL.out (by omega) HAI.out).mono ?_
  rintro _ w4 ⟨B, m, d, rfl, ho, he⟩
  obtain ⟨ks, hks⟩ : ∃ ks, ks = wayS L a b := ⟨_, rfl⟩
  have hcw : (cwL L ⟨a.a, a.b⟩ ⟨b.a, b.b⟩).map (Value.int .i64) = vl ks := by
    rw [cwL_val, hks]
    rw [show (isIn L (⟨a.a, a.b⟩ : T2) && isIn L (⟨b.a, b.b⟩ : T2)) = true from HAI.out, if_pos rfl]
  rw [hcw] at ho
  have hm : ks.length = m := by have h1 := ho.1; rw [vl_len] at h1; omega
  obtain ⟨hw1, hw2, hw3, hw4⟩ := HWY.out
  rw [← hks] at hw1 hw2 hw3 hw4
  rw [← hN.out, hm] at hw2
  rw [hm] at hw3
  have HW1 := hid hw1
  have HW4 := hid hw4
  have HK := hid (Row.of_own ho)
  have HM := hid hm
  have HE4 := hid (HE3.out.trans he)
  have HA4 := hid (HA3.out.ext he)
  have b0 := old_cell he b0
  have b1 := old_cell he b1
  have b2 := old_cell he b2
  have b3 := old_cell he b3
  have b4 := old_cell he b4
  have b5 := old_cell he b5
  have b6 := old_cell he b6
  replace hw2 := hid hw2
  clear ho he hks hcw hm hw1 hw4 HWY HE3 HA3
  go_wp2_with fail
  refine (iPoints_any (some ⟨bk, off, none⟩) n c L B m d ks w4 HA4.out HLL.out HRO.out HK.out HM.out (by omega) HW1.out).mono ?_
  rintro _ w5 ⟨D, c5, rfl, ho, he⟩
  have HO5 := hid ho
  have HD5 := hid (Row.of_own ho)
  have HE5 := hid (HE4.out.trans he)
  have HA5 := hid (HA4.out.ext he)
  have b0 := old_cell he b0
  have b1 := old_cell he b1
  have b2 := old_cell he b2
  have b3 := old_cell he b3
  have b4 := old_cell he b4
  have b5 := old_cell he b5
  have b6 := old_cell he b6
  clear ho he HE4 HA4 HK
  go_wp2_with fail
  have HPL := hid (show ((ptsL L ks).flatMap T2.v).length = m * 2 by rw [flat_len _ 2 T2.len]; unfold ptsL; rw [List.length_map, HM.out])
  have HWK := hid (show (walkL L a ks b).flatMap T2.v = ([Value.int .i64 a.a, Value.int .i64 a.b] ++ (ptsL L ks).flatMap T2.v) ++ [Value.int .i64 b.a, Value.int .i64 b.b] by unfold walkL; rw [List.flatMap_append, List.flatMap_append]; rfl)
  have oneP : ∀ u ∈ (ptsL L ks).flatMap T2.v, u.oneCell' = true := fun u hu => by
    obtain ⟨x, _, hx⟩ := List.mem_flatMap.1 hu
    simp only [T2.v, List.mem_cons, List.not_mem_nil, or_false] at hx
    rcases hx with rfl | rfl <;> rfl
  apply two_waysP
  case h =>
    intro KEY0
    have KEY := hid KEY0
    clear KEY0
    refine wp_region_t (.q 0 (.q 2 (.q 4 (.b 1 5 (.b 3 5 (.u 5 (.u 6 (.u 7 .nil))) (.u 3 (.u 6 (.u 7 .nil)))) (.u 1 (.u 3 (.u 6 (.u 7 .nil)))))))) (by kernel_rfl) (by kernel_rfl) (fun w6 e6 => ?_)
    have b0 := old_cell e6 b0
    have b1 := old_cell e6 b1
    have b2 := old_cell e6 b2
    have b3 := old_cell e6 b3
    have b4 := old_cell e6 b4
    have b5 := old_cell e6 b5
    have b6 := old_cell e6 b6
    have HE6 := hid (HE5.out.trans e6)
    have HA6 := hid (HA5.out.ext e6)
    have HD6 := hid (HD5.out.ext e6)
    clear e6
    simp only [pickT, List.getElem?_cons_succ, List.getElem?_cons_zero]
    repeat (refine wpW_q (fun K hK => ?_); go_simp; refine hK _ ?_; clear hK K)
    refine wpW_b ?_ ?_
    · refine stepH_of (fun K hK => ?_)
      go_simp
      refine hK _ _ (Below.alloc (Below.refl _ _) (Nat.le_refl _) _) ?_; clear hK K
      have HO7 := hid (World.ownsRow_lit (base := w6.heap.size) (e := 35) (size := 2) w6 #[.int .i64 a.a, .int .i64 a.b] 1 (Nat.le_refl _) (by decide) rfl)
      refine wpW_b ?_ ?_
      · refine stepH_of (fun K hK => ?_)
        rw [if_pos (by rfl)]
        refine her_pushS w6 (.tmp 46) (.tmp 47) 31 rfl 35 Try.underlying31 info_PointC rfl (by decide) _ 1 [.int .i64 a.a, .int .i64 a.b] rfl HO7.out (by repeat (first | exact Ext.refl _ | refine Ext.alloc ?_ _ | assumption | refine Ext.over ?_ _ | refine Ext.drew ?_ | refine Ext.drewN ?_ _)) D m c5 ((ptsL L ks).flatMap T2.v) rfl (own_none HO5.out) HPL.out (HD6.out.ext (by repeat (first | exact Ext.refl _ | refine Ext.alloc ?_ _ | assumption | refine Ext.over ?_ _ | refine Ext.drew ?_ | refine Ext.drewN ?_ _))) oneP (by omega) (by decide) ?_
        intro A8 c8 w8 ho8 he8 hg8
        refine hK _ _ (grown_below hg8 HO7.out (Nat.le_refl _) (by simp)) ?_; clear hK K
        have HO8 := hid ho8
        have HE8 := hid he8
        clear ho8 hg8 HO7
        refine wpW_u ?_
        refine stepH_of (fun K hK => ?_)
        go_simp
        refine hK _ _ (Below.alloc (Below.refl _ _) he8.size _) ?_; clear hK K
        have HO9 := hid (own_ext HO8.out (show Ext w8 (w8.alloc (.cells #[.int .i64 b.a, .int .i64 b.b] 35)) by repeat (first | exact Ext.refl _ | refine Ext.alloc ?_ _ | assumption | refine Ext.over ?_ _ | refine Ext.drew ?_ | refine Ext.drewN ?_ _)))
        have HE9 := hid (show Ext w6 (w8.alloc (.cells #[.int .i64 b.a, .int .i64 b.b] 35)) from HE8.out.trans (by repeat (first | exact Ext.refl _ | refine Ext.alloc ?_ _ | assumption | refine Ext.over ?_ _ | refine Ext.drew ?_ | refine Ext.drewN ?_ _)))
        have HC9 := hid (lit_cells w8 w8.heap.size rfl [.int .i64 b.a, .int .i64 b.b] 35)
        clear he8
        refine wpW_u ?_
        refine stepH_of (fun K hK => ?_)
        rw [if_pos (by rfl)]
        refine her_push w6 (.tmp 48) (.tmp 50) 31 rfl 35 Try.underlying31 info_PointC rfl (by decide) _ (1 + m) ([Value.int .i64 a.a, Value.int .i64 a.b] ++ (ptsL L ks).flatMap T2.v) rfl HO9.out HE9.out _ 1 1 [.int .i64 b.a, .int .i64 b.b] rfl rfl HC9.out (by intro u hu; simp at hu; rcases hu with rfl | rfl <;> rfl) (by omega) (by omega) (by decide) ?_
        intro g9 c9 w9 ho9 he9 hg9
        refine hK _ _ (grown_below hg9 HO9.out (Nat.le_refl _) HE9.out.size) ?_; clear hK K
        ((first | refine wpW_u ?_ | skip); refine stepH_of (fun K hK => ?_); go_simp; refine hK _ _ (Below.refl _ _) ?_; clear hK K)
        refine wpW_nil ?_
        have F := hid (And.intro (HE6.out.trans he9) (And.intro (HA6.out.ext he9) (And.intro (old_cell he9 b0) (And.intro (old_cell he9 b1) (And.intro (old_cell he9 b2) (And.intro (old_cell he9 b3) (And.intro (old_cell he9 b4) (And.intro (old_cell he9 b5) (And.intro (old_cell he9 b6) (show Row w9 (some ⟨g9, 0, none⟩) ((walkL L a ks b).flatMap T2.v) by rw [HWK.out]; exact Row.of_own ho9))))))))))
        generalize Value.slice (some ⟨w6.heap.size, 0, none⟩) 1 1 = v46
        generalize Value.slice A8 (1 + m) c8 = v48
        generalize Value.slice (some ⟨w8.heap.size, 0, none⟩) 1 1 = v50
        clear HE6 HA6 HD6 b0 b1 b2 b3 b4 b5 b6 he9 hg9 ho9 HO8 HE8 HO9 HE9 HC9
        revert F
        revert c9 g9
        revert v46 v48 v50
        revert w9
        exact KEY.out
      · refine stepH_of (fun K hK => ?_)
        go_simp
        refine hK _ _ (Below.alloc (Below.refl _ _) (by simp) _) ?_; clear hK K
        have HO8 := hid (own_ext HO7.out (show Ext (w6.alloc (.cells #[.int .i64 a.a, .int .i64 a.b] 35)) ((w6.alloc (.cells #[.int .i64 a.a, .int .i64 a.b] 35)).alloc (.cells #[.int .i64 b.a, .int .i64 b.b] 35)) by repeat (first | exact Ext.refl _ | refine Ext.alloc ?_ _ | assumption | refine Ext.over ?_ _ | refine Ext.drew ?_ | refine Ext.drewN ?_ _)))
        have HC8 := hid (lit_cells (w6.alloc (.cells #[.int .i64 a.a, .int .i64 a.b] 35)) (w6.heap.size + 1) (by simp) [.int .i64 b.a, .int .i64 b.b] 35)
        refine wpW_u ?_
        refine stepH_of (fun K hK => ?_)
        rw [if_pos (by rfl)]
        refine her_pushS w6 (.tmp 46) (.tmp 47) 31 rfl 35 Try.underlying31 info_PointC rfl (by decide) _ 1 [.int .i64 a.a, .int .i64 a.b] rfl HO8.out (by repeat (first | exact Ext.refl _ | refine Ext.alloc ?_ _ | assumption | refine Ext.over ?_ _ | refine Ext.drew ?_ | refine Ext.drewN ?_ _)) D m c5 ((ptsL L ks).flatMap T2.v) rfl (own_none HO5.out) HPL.out (HD6.out.ext (by repeat (first | exact Ext.refl _ | refine Ext.alloc ?_ _ | assumption | refine Ext.over ?_ _ | refine Ext.drew ?_ | refine Ext.drewN ?_ _))) oneP (by omega) (by decide) ?_
        intro A8 c8 w8 ho8 he8 hg8
        refine hK _ _ (grown_below hg8 HO8.out (Nat.le_refl _) (by simp; omega)) ?_; clear hK K
        have HC9 := hid (lit_kept HC8.out HO8.out hg8 (by simp [Value.ownBlock]))
        have HO9 := hid ho8
        have HE9 := hid he8
        clear ho8 he8 hg8 HO7 HO8 HC8
        refine wpW_u ?_
        refine stepH_of (fun K hK => ?_)
        rw [if_pos (by rfl)]
        refine her_push w6 (.tmp 48) (.tmp 50) 31 rfl 35 Try.underlying31 info_PointC rfl (by decide) _ (1 + m) ([Value.int .i64 a.a, Value.int .i64 a.b] ++ (ptsL L ks).flatMap T2.v) rfl HO9.out HE9.out _ 1 1 [.int .i64 b.a, .int .i64 b.b] rfl rfl HC9.out (by intro u hu; simp at hu; rcases hu with rfl | rfl <;> rfl) (by omega) (by omega) (by decide) ?_
        intro g9 c9 w9 ho9 he9 hg9
        refine hK _ _ (grown_below hg9 HO9.out (Nat.le_refl _) HE9.out.size) ?_; clear hK K
        ((first | refine wpW_u ?_ | skip); refine stepH_of (fun K hK => ?_); go_simp; refine hK _ _ (Below.refl _ _) ?_; clear hK K)
        refine wpW_nil ?_
        have F := hid (And.intro (HE6.out.trans he9) (And.intro (HA6.out.ext he9) (And.intro (old_cell he9 b0) (And.intro (old_cell he9 b1) (And.intro (old_cell he9 b2) (And.intro (old_cell he9 b3) (And.intro (old_cell he9 b4) (And.intro (old_cell he9 b5) (And.intro (old_cell he9 b6) (show Row w9 (some ⟨g9, 0, none⟩) ((walkL L a ks b).flatMap T2.v) by rw [HWK.out]; exact Row.of_own ho9))))))))))
        generalize Value.slice (some ⟨w6.heap.size, 0, none⟩) 1 1 = v46
        generalize Value.slice A8 (1 + m) c8 = v48
        generalize Value.slice (some ⟨w6.heap.size + 1, 0, none⟩) 1 1 = v50
        clear HE6 HA6 HD6 b0 b1 b2 b3 b4 b5 b6 he9 hg9 ho9 HO9 HE9 HC9
        revert F
        revert c9 g9
        revert v46 v48 v50
        revert w9
        exact KEY.out
    · refine stepH_of (fun K hK => ?_)
      go_simp
      refine hK _ _ (Below.alloc (Below.refl _ _) (Nat.le_refl _) _) ?_; clear hK K
      refine wpW_u ?_
      refine stepH_of (fun K hK => ?_)
      go_simp
      refine hK _ _ (Below.alloc (Below.refl _ _) (by simp) _) ?_; clear hK K
      have HC8 := hid (show ∀ (j : Nat) (u : Value), [.int .i64 b.a, .int .i64 b.b][j]? = some u → ((w6.alloc (.cells #[.int .i64 b.a, .int .i64 b.b] 35)).alloc (.cells #[.int .i64 a.a, .int .i64 a.b] 35)).cell? ((⟨w6.heap.size, 0, none⟩ : Addr).add j) = some u from fun j u hu => old_cell (show Ext (w6.alloc (.cells #[.int .i64 b.a, .int .i64 b.b] 35)) _ by repeat (first | exact Ext.refl _ | refine Ext.alloc ?_ _ | assumption | refine Ext.over ?_ _ | refine Ext.drew ?_ | refine Ext.drewN ?_ _)) (lit_cells w6 w6.heap.size rfl [.int .i64 b.a, .int .i64 b.b] 35 j u hu))
      have HO8 := hid (show ((w6.alloc (.cells #[.int .i64 b.a, .int .i64 b.b] 35)).alloc (.cells #[.int .i64 a.a, .int .i64 a.b] 35)).ownsRow w6.heap.size 35 2 (.slice (some ⟨w6.heap.size + 1, 0, none⟩) 1 1) 1 [.int .i64 a.a, .int .i64 a.b] from by
        have h := World.ownsRow_lit (base := w6.heap.size) (e := 35) (size := 2) (w6.alloc (.cells #[.int .i64 b.a, .int .i64 b.b] 35)) #[.int .i64 a.a, .int .i64 a.b] 1 (by simp) (by decide) rfl
        rw [show (w6.alloc (.cells #[.int .i64 b.a, .int .i64 b.b] 35)).heap.size = w6.heap.size + 1 from by simp] at h
        exact h)
      refine wpW_u ?_
      refine stepH_of (fun K hK => ?_)
      rw [if_pos (by rfl)]
      refine her_pushS w6 (.tmp 46) (.tmp 47) 31 rfl 35 Try.underlying31 info_PointC rfl (by decide) _ 1 [.int .i64 a.a, .int .i64 a.b] rfl HO8.out (by repeat (first | exact Ext.refl _ | refine Ext.alloc ?_ _ | assumption | refine Ext.over ?_ _ | refine Ext.drew ?_ | refine Ext.drewN ?_ _)) D m c5 ((ptsL L ks).flatMap T2.v) rfl (own_none HO5.out) HPL.out (HD6.out.ext (by repeat (first | exact Ext.refl _ | refine Ext.alloc ?_ _ | assumption | refine Ext.over ?_ _ | refine Ext.drew ?_ | refine Ext.drewN ?_ _))) oneP (by omega) (by decide) ?_
      intro A8 c8 w8 ho8 he8 hg8
      refine hK _ _ (grown_below hg8 HO8.out (Nat.le_refl _) (by simp; omega)) ?_; clear hK K
      have HC9 := hid (lit_kept HC8.out HO8.out hg8 (by simp [Value.ownBlock]))
      have HO9 := hid ho8
      have HE9 := hid he8
      clear ho8 he8 hg8 HO8 HC8
      refine wpW_u ?_
      refine stepH_of (fun K hK => ?_)
      rw [if_pos (by rfl)]
      refine her_push w6 (.tmp 48) (.tmp 50) 31 rfl 35 Try.underlying31 info_PointC rfl (by decide) _ (1 + m) ([Value.int .i64 a.a, Value.int .i64 a.b] ++ (ptsL L ks).flatMap T2.v) rfl HO9.out HE9.out _ 1 1 [.int .i64 b.a, .int .i64 b.b] rfl rfl HC9.out (by intro u hu; simp at hu; rcases hu with rfl | rfl <;> rfl) (by omega) (by omega) (by decide) ?_
      intro g9 c9 w9 ho9 he9 hg9
      refine hK _ _ (grown_below hg9 HO9.out (Nat.le_refl _) HE9.out.size) ?_; clear hK K
      ((first | refine wpW_u ?_ | skip); refine stepH_of (fun K hK => ?_); go_simp; refine hK _ _ (Below.refl _ _) ?_; clear hK K)
      refine wpW_nil ?_
      have F := hid (And.intro (HE6.out.trans he9) (And.intro (HA6.out.ext he9) (And.intro (old_cell he9 b0) (And.intro (old_cell he9 b1) (And.intro (old_cell he9 b2) (And.intro (old_cell he9 b3) (And.intro (old_cell he9 b4) (And.intro (old_cell he9 b5) (And.intro (old_cell he9 b6) (show Row w9 (some ⟨g9, 0, none⟩) ((walkL L a ks b).flatMap T2.v) by rw [HWK.out]; exact Row.of_own ho9))))))))))
      generalize Value.slice (some ⟨w6.heap.size + 1, 0, none⟩) 1 1 = v46
      generalize Value.slice A8 (1 + m) c8 = v48
      generalize Value.slice (some ⟨w6.heap.size, 0, none⟩) 1 1 = v50
      clear HE6 HA6 HD6 b0 b1 b2 b3 b4 b5 b6 he9 hg9 ho9 HO9 HE9 HC9
      revert F
      revert c9 g9
      revert v46 v48 v50
      revert w9
      exact KEY.out
  intro w6 v46 v48 v50 g9 c9 F
  obtain ⟨hE, hA, b0, b1, b2, b3, b4, b5, b6, hW⟩ := F.out
  have HE6 := hid hE
  have HA6 := hid hA
  have HW6 := hid hW
  clear F hE hA hW HE5 HA5 HO5 HD5 oneP
  go_wp2_with fail
  refine (link_any (some ⟨bk, off, none⟩) n c L w6 HA6.out HLL.out HRO.out).mono ?_
  rintro _ w7 ⟨M, rfl, hMb, hMl, he⟩
  obtain ⟨mm, hmm, _, hmM⟩ := floor_way HRO.out HFA.out HFB.out hMl
  rw [← hN.out] at hmm
  have hN0 : 0 ≤ N := by omega
  have hNM : N ≤ M + 2 := by omega
  have hM1 := link_pos HRO.out hMl
  have HE7 := hid (HE6.out.trans he)
  have HA7 := hid (HA6.out.ext he)
  have HW7 := hid (HW6.out.ext he)
  have b0 := old_cell he b0
  have b1 := old_cell he b1
  have b2 := old_cell he b2
  have b3 := old_cell he b3
  have b4 := old_cell he b4
  have b5 := old_cell he b5
  have b6 := old_cell he b6
  clear hmm hmM hMl he HE6 HA6 HW6
  have HWL := hid (show (walkL L a ks b).length = 1 + m + 1 by unfold walkL ptsL; simp; rw [HM.out]; omega)
  have hz := best_zero HRO.out HFA.out HFB.out
  have h1 := best_one HRO.out HFA.out HFB.out
  rw [← hN.out] at hz h1
  have hmx := hw2.out
  have hic := floor_in HRO.out HFC.out
  have hpq := (Bool.and_eq_true _ _).mp HAI.out
  obtain ⟨P1, hP1⟩ : ∃ P1, pcs L a (at2 L k) = P1 := ⟨_, rfl⟩
  obtain ⟨P2, hP2⟩ : ∃ P2, pcs L (at2 L k) b = P2 := ⟨_, rfl⟩
  have g1 : P1 = bestS L (at2 L k) a := by rw [← hP1]; unfold pcs; rw [hic, hpq.1]; rfl
  have g2 : P2 = bestS L b (at2 L k) := by rw [← hP2]; unfold pcs; rw [hic, hpq.2]; rfl
  have hT := HTR.out
  rw [← hN.out, ← g1, ← g2] at hT
  have q1 := bestS_bound L (at2 L k) a
  have q2 := bestS_bound L b (at2 L k)
  rw [← g1, HLL.out] at q1
  rw [← g2, HLL.out] at q2
  have gw : IntKind.i64.wrap (P1 + P2) = P1 + P2 := IntWalk.i64_in _ (by omega)
  have gm : IntKind.i64.wrap (M + 2) = M + 2 := IntWalk.i64_in _ (by omega)
  have HSE := hid (fun w' (h : Row w' (some ⟨bk, off, none⟩) (L.flatMap T2.v)) => iSees_any (some ⟨bk, off, none⟩) n c L a b w' h HLL.out (by omega) HAI.out)
  have HWK2 := hid (fun w' (h : Row w' (some ⟨bk, off, none⟩) (L.flatMap T2.v)) (h' : Row w' (some ⟨g9, 0, none⟩) ((walkL L a ks b).flatMap T2.v)) => gives_b HW4.out (iWalk_any (some ⟨bk, off, none⟩) n c L (some ⟨g9, 0, none⟩) (1 + m + 1) c9 (walkL L a ks b) w' h HLL.out (by omega) h' HWL.out (by omega)))
  have hv := HNW.out
  unfold ptV at HSE
  replace g1 := hid g1
  replace g2 := hid g2
  clear HTR HW4 HWL hic hpq hw2 HAI HV0 HAB htm hw hz0 hknt hb0
  rcases (show N = 0 ∨ N = 1 ∨ 1 < N by omega) with rfl | rfl | hN2
  · obtain rfl : m = 0 := by omega
    have hab : a = b := eqP_iff.1 hz.symm
    have hs : seesS L a b = true := by rw [← h1]; rfl
    clear hz h1 hmx
    subst hab
    go_wp2_with (go_at_call 30; refine (HWK2.out _ (HA7.out.ext (by repeat (first | exact Ext.refl _ | refine Ext.alloc ?_ _ | assumption | refine Ext.over ?_ _ | refine Ext.drew ?_ | refine Ext.drewN ?_ _))) (HW7.out.ext (by repeat (first | exact Ext.refl _ | refine Ext.alloc ?_ _ | assumption | refine Ext.over ?_ _ | refine Ext.drew ?_ | refine Ext.drewN ?_ _)))).over.mono ?_; rintro e w' ⟨rfl, xw, rfl⟩)
    (refine wp_region_calm (by kernel_rfl) (by kernel_rfl) ?_; (repeat (go_big_quiet_step ((first | (go_at_call 27; exact (HPC.out _ _ _ (HA7.out.ext (by repeat (first | exact Ext.refl _ | refine Ext.alloc ?_ _ | assumption | refine Ext.over ?_ _ | refine Ext.drew ?_ | refine Ext.drewN ?_ _)))).calm) | (go_at_call 31; exact (gives_b hs (HSE.out _ (HA7.out.ext (by repeat (first | exact Ext.refl _ | refine Ext.alloc ?_ _ | assumption | refine Ext.over ?_ _ | refine Ext.drew ?_ | refine Ext.drewN ?_ _))))).calm))))); refine wpQuiet_nil ?_; rintro w1 ⟨x1, rfl⟩)
    go_wp2_with fail
    go_ret
    exact ⟨rfl, HE7.out.trans (by repeat (first | exact Ext.refl _ | refine Ext.alloc ?_ _ | assumption | refine Ext.over ?_ _ | refine Ext.drew ?_ | refine Ext.drewN ?_ _))⟩
  · obtain rfl : m = 0 := by omega
    have hab : eqP a b = false := hz.symm
    have hs : seesS L a b = true := by rw [← h1]; rfl
    clear hz h1 hmx
    unfold eqP at hab
    cases e1 : (a.a == b.a) <;> cases e2 : (a.b == b.b)
    case true.true => rw [e1, e2] at hab; cases hab
    all_goals
      clear hab
      go_wp2_with (go_at_call 30; refine (HWK2.out _ (HA7.out.ext (by repeat (first | exact Ext.refl _ | refine Ext.alloc ?_ _ | assumption | refine Ext.over ?_ _ | refine Ext.drew ?_ | refine Ext.drewN ?_ _))) (HW7.out.ext (by repeat (first | exact Ext.refl _ | refine Ext.alloc ?_ _ | assumption | refine Ext.over ?_ _ | refine Ext.drew ?_ | refine Ext.drewN ?_ _)))).over.mono ?_; rintro e w' ⟨rfl, xw, rfl⟩)
      (refine wp_region_calm (by kernel_rfl) (by kernel_rfl) ?_; (repeat (go_big_quiet_step ((first | (go_at_call 27; exact (HPC.out _ _ _ (HA7.out.ext (by repeat (first | exact Ext.refl _ | refine Ext.alloc ?_ _ | assumption | refine Ext.over ?_ _ | refine Ext.drew ?_ | refine Ext.drewN ?_ _)))).calm) | (go_at_call 31; exact (gives_b hs (HSE.out _ (HA7.out.ext (by repeat (first | exact Ext.refl _ | refine Ext.alloc ?_ _ | assumption | refine Ext.over ?_ _ | refine Ext.drew ?_ | refine Ext.drewN ?_ _))))).calm))))); refine wpQuiet_nil ?_; rintro w1 ⟨x1, rfl⟩)
      go_wp2_with fail
      go_ret
      exact ⟨rfl, HE7.out.trans (by repeat (first | exact Ext.refl _ | refine Ext.alloc ?_ _ | assumption | refine Ext.over ?_ _ | refine Ext.drew ?_ | refine Ext.drewN ?_ _))⟩
  · obtain rfl : N = (m : Int) + 1 := by omega
    have hab : eqP a b = false := by rw [← hz, beq_eq_false_iff_ne]; omega
    have hs : seesS L a b = false := by rw [← h1]; exact decide_eq_false (by omega)
    have hm0 : ¬ m = 0 := by omega
    clear hz h1 hmx
    unfold eqP at hab
    cases e1 : (a.a == b.a) <;> cases e2 : (a.b == b.b)
    case true.true => rw [e1, e2] at hab; cases hab
    all_goals
      clear hab
      go_wp2_with (go_at_call 30; refine (HWK2.out _ (HA7.out.ext (by repeat (first | exact Ext.refl _ | refine Ext.alloc ?_ _ | assumption | refine Ext.over ?_ _ | refine Ext.drew ?_ | refine Ext.drewN ?_ _))) (HW7.out.ext (by repeat (first | exact Ext.refl _ | refine Ext.alloc ?_ _ | assumption | refine Ext.over ?_ _ | refine Ext.drew ?_ | refine Ext.drewN ?_ _)))).over.mono ?_; rintro e w' ⟨rfl, xw, rfl⟩)
      have n1 : ¬ ((m : Int) + 1) ≤ 1 := by omega
      have n0 : (((m : Int) + 1) == 0) = false := by rw [beq_eq_false_iff_ne]; omega
      generalize (m : Int) + 1 = N at hv hT hNM n1 n0 ⊢
      (refine wp_region_calm (by kernel_rfl) (by kernel_rfl) ?_; (repeat (go_big_quiet_step ((first | (go_at_call 27; exact (HPC.out _ _ _ (HA7.out.ext (by repeat (first | exact Ext.refl _ | refine Ext.alloc ?_ _ | assumption | refine Ext.over ?_ _ | refine Ext.drew ?_ | refine Ext.drewN ?_ _)))).calm) | (go_at_call 31; exact (gives_b hs (HSE.out _ (HA7.out.ext (by repeat (first | exact Ext.refl _ | refine Ext.alloc ?_ _ | assumption | refine Ext.over ?_ _ | refine Ext.drew ?_ | refine Ext.drewN ?_ _))))).calm))))); refine wpQuiet_nil ?_; rintro w1 ⟨x1, rfl⟩)
      go_wp2_with fail
      go_ret
      exact ⟨rfl, HE7.out.trans (by repeat (first | exact Ext.refl _ | refine Ext.alloc ?_ _ | assumption | refine Ext.over ?_ _ | refine Ext.drew ?_ | refine Ext.drewN ?_ _))⟩
end fnPieces
end Go.Proofs.Ytkifapcegiajiaa
