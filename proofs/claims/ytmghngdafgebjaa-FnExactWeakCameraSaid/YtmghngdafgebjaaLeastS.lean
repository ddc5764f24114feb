/- Walks: LeastFilming of the reference, IsRobust of both. Conditions: at most 1048577 corners and cameras. -/
import Derived.Test.YtmghngdafgebjaaCountsW
namespace Go.Proofs.Ytmghngdafgebjaa
open Go.RowKit
set_option linter.unusedVariables false

theorem rowC_val {L : List T2} {C : List T7} {F : List T2} {j : Nat} (hj : j < F.length) : (rowC L C F C.length 0)[j]? = some ((countR L C (at2 F j) : Nat) : Int) := by
  rw [rowC_at hj, if_neg (by omega)]; rfl
theorem floorR_yes {L : List T2} (h : roomS L = true) : floorR L = floorL L := by unfold floorR; rw [h]; rfl
set_option maxRecDepth 100000 in
set_option maxHeartbeats 1600000 in
theorem sLeast_any (A : Option Addr) (n c : Nat) (L : List T2) (B : Option Addr) (m d : Nat) (C : List T7) (w : World) (hl : Row w A (L.flatMap T2.v)) (hn : L.length = n) (hx : n ≤ 1048577) (hr : Row w B (C.flatMap T7.v)) (hm : C.length = m) (hy : m ≤ 1048577) : Gives Try.prog 31 #[.agg #[.slice A n c], .slice B m d] w (.int .i64 (leastR L C)) := by
  subst hm
  have HL := hid hl
  have HR := hid hr
  clear hl hr
  cases hro : roomS L
  · have HV := hid (show leastR L C = -1 by unfold leastR; rw [hro]; rfl)
    (unfold Gives; go_enter Try.func31, Try.ntmps31)
    go_wp2_with (go_at_call 53; refine (gives_b hro (sRoomOk_any A n c L _ (HL.out.ext (by repeat (first | exact Ext.refl _ | refine Ext.alloc ?_ _ | assumption | refine Ext.over ?_ _ | refine Ext.drew ?_ | refine Ext.drewN ?_ _))) hn hx)).over.mono ?_; rintro e w' ⟨rfl, xw, rfl⟩)
    go_ret
    exact ⟨by rw [HV.out]; rfl, by repeat (first | exact Ext.refl _ | refine Ext.alloc ?_ _ | assumption | refine Ext.over ?_ _ | refine Ext.drew ?_ | refine Ext.drewN ?_ _)⟩
  by_cases h6 : C.length ≤ 6
  rotate_left
  · have HV := hid (show leastR L C = -1 by unfold leastR; rw [decide_eq_false h6]; simp)
    have h6' : (6 : Int) < C.length := by omega
    (unfold Gives; go_enter Try.func31, Try.ntmps31)
    go_wp2_with (go_at_call 53; refine (gives_b hro (sRoomOk_any A n c L _ (HL.out.ext (by repeat (first | exact Ext.refl _ | refine Ext.alloc ?_ _ | assumption | refine Ext.over ?_ _ | refine Ext.drew ?_ | refine Ext.drewN ?_ _))) hn hx)).over.mono ?_; rintro e w' ⟨rfl, xw, rfl⟩)
    go_ret
    exact ⟨by rw [HV.out]; rfl, by repeat (first | exact Ext.refl _ | refine Ext.alloc ?_ _ | assumption | refine Ext.over ?_ _ | refine Ext.drew ?_ | refine Ext.drewN ?_ _)⟩
  have HV := hid (show leastR L C = leastN L C (floorL L) (floorL L).length by unfold leastR; rw [hro, decide_eq_true h6]; rfl)
  have h6' : (C.length : Int) ≤ 6 := by omega
  have HFO := hid (fun k hk => floor_at hro (k := k) hk)
  have hfl := floor_len hro
  have HFR := hid (floorR_yes hro)
  have HRO := hid hro
  (unfold Gives; go_enter Try.func31, Try.ntmps31)
  go_wp2_with fail
  refine (gives_b hro (sRoomOk_any A n c L _ (HL.out.ext (by repeat (first | exact Ext.refl _ | refine Ext.alloc ?_ _ | assumption | refine Ext.over ?_ _ | refine Ext.drew ?_ | refine Ext.drewN ?_ _))) hn hx)).mono ?_
  rintro _ w1 ⟨rfl, e1⟩
  have b0 : w1.cell? ⟨w.heap.size, 0, none⟩ = some (.slice A n c) := old_cell e1 (by go_simp)
  have E1 := hid (Ext.trans (show Ext w _ by repeat (first | exact Ext.refl _ | refine Ext.alloc ?_ _ | assumption | refine Ext.over ?_ _ | refine Ext.drew ?_ | refine Ext.drewN ?_ _)) e1)
  clear e1
  go_wp2_with fail
  refine wp_region_x [.q 0, .q 1, .q 3, .u 2, .u 4, .u 5] (by kernel_rfl) (by kernel_rfl) (fun w2 e2 => ?_)
  have E2 := hid (E1.out.trans e2)
  have b2 := old_cell e2 b0
  clear e2 E1 b0
  simp only [pick, List.getElem?_cons_succ, List.getElem?_cons_zero]
  repeat (refine wpZ_q (fun K hK => ?_); go_simp; refine hK _ ?_; clear hK K)
  refine wpZ_u ?_
  refine stepH_of (fun K hK => ?_)
  go_simp
  refine (sFloor_any A n c L w2 (HL.out.ext E2.out) hn hx).mono ?_
  rintro _ w3 ⟨D, q, c1, rfl, ho, he⟩
  refine ⟨_, rfl, hK _ _ he ?_⟩; clear hK K
  rw [HFR.out] at ho
  have hq := own_len2 ho
  have HO := hid ho
  have HE := hid he
  have b3 := old_cell he b2
  have E3 := hid (E2.out.trans he)
  generalize hF : floorL L = F at *
  subst hq
  clear ho he b2
  refine wpZ_u ?_
  refine stepH_of (fun K hK => ?_)
  go_simp
  refine (counts_any A n c L D F.length c1 F B C.length d C w3 (HL.out.ext E3.out) hn HRO.out (Row.of_own HO.out) rfl hfl HFO.out (HR.out.ext E3.out) rfl hy).mono ?_
  rintro _ w4 ⟨E, c4, rfl, ho4, he4⟩
  refine ⟨_, rfl, hK _ _ (ext_below he4 HE.out.size) ?_⟩; clear hK K
  have E4 := hid (E3.out.trans he4)
  have HO4 := hid (Row.of_own ho4)
  have b4 := old_cell he4 b3
  clear ho4 he4 b3 HO HE E3 E2
  ((first | refine wpZ_u ?_ | skip); refine stepH_of (fun K hK => ?_); go_simp; refine hK _ _ (Below.refl _ _) ?_; clear hK K)
  refine wpZ_nil ?_
  go_wp2_with fail
  go_loopw [6, 7] (fun sv kv wr => ∃ (k z : Nat), k ≤ F.length ∧ kv = .int .i64 ↑k ∧ sv = .int .i64 ↑z ∧ leastN L C F k = z ∧ Ext w4 wr) (fun _ kv _ => F.length - (intOf kv).toNat)
  case atStart => exact ⟨0, C.length, by omega, rfl, rfl, rfl, Ext.refl _⟩
  case round =>
    obtain ⟨k, z, hk, rfl, rfl, hz, he⟩ := hrel
    have hzk := leastN_le L C F k
    rw [hz] at hzk
    have HZ := hid hz
    have HE := hid he
    have HX := hid (E4.out.trans he)
    have r0 := old_cell he b4
    clear hz he
    by_cases hlt : k < F.length
    · obtain ⟨blk, off, hB, hc⟩ := (HO4.out.ext HE.out).at_ (j := k) (by rw [List.length_map, rowC_len]; exact hlt)
      have c0 := hc k _ (by rw [List.getElem?_map, rowC_val hlt]; rfl)
      have hkt : (k : Int) < F.length := by omega
      have HS := hid (show leastN L C F (k + 1) = min z (countR L C (at2 F k)) by rw [← HZ.out]; rfl)
      have hcl := countR_le L C (at2 F k)
      subst hB
      generalize hcv : countR L C (at2 F k) = v at HS c0 hcl
      clear hc hcv
      have hzb : (z : Int) ≤ 6 := by omega
      have hvb : (v : Int) ≤ 6 := by omega
      go_wp2_with fail
      go_roundw
      case rel => exact ⟨k + 1, min z v, by omega, by go_num, by congr 1; first | omega | (split <;> omega), HS.out, HE.out.trans (by repeat (first | exact Ext.refl _ | refine Ext.alloc ?_ _ | assumption | refine Ext.over ?_ _ | refine Ext.drew ?_ | refine Ext.drewN ?_ _))⟩
      case measure => simp [intOf]; omega
    · obtain rfl : k = F.length := by omega
      go_wp2_with fail
      go_ret
      exact ⟨by rw [HV.out, HZ.out]; rfl, HX.out⟩
def robR (L : List T2) (C : List T7) (z : Int) : Bool := decide (0 ≤ z) && decide (z < leastR L C)
theorem leastR_range (L : List T2) (C : List T7) : -1 ≤ leastR L C ∧ leastR L C ≤ 6 := by
  unfold leastR
  split
  · rename_i h
    simp only [Bool.and_eq_true, decide_eq_true_eq] at h
    have := leastN_le L C (floorL L) (floorL L).length
    omega
  · omega
set_option maxRecDepth 100000 in
theorem iRobust_any (A : Option Addr) (n c : Nat) (L : List T2) (B : Option Addr) (m d : Nat) (C : List T7) (z : Int) (w : World) (hl : Row w A (L.flatMap T2.v)) (hn : L.length = n) (hx : n ≤ 1048577) (hr : Row w B (C.flatMap T7.v)) (hm : C.length = m) (hy : m ≤ 1048577) : Gives Try.prog 34 #[.agg #[.slice A n c], .slice B m d, .int .i64 z] w (.bool (robR L C z)) := by
  have HL := hid hl
  have HR := hid hr
  have HG := hid (fun w' (h : Row w' A (L.flatMap T2.v)) (h' : Row w' B (C.flatMap T7.v)) => iLeast_any A n c L B m d C w' h hn hx h' hm hy)
  clear hl hr
  cases h0 : decide (0 ≤ z)
  · have HV := hid (show robR L C z = false by unfold robR; rw [h0]; rfl)
    (unfold Gives; go_enter Try.func34, Try.ntmps34)
    go_wp2_with fail
    go_ret
    exact ⟨by rw [HV.out]; rfl, by repeat (first | exact Ext.refl _ | refine Ext.alloc ?_ _ | assumption | refine Ext.over ?_ _ | refine Ext.drew ?_ | refine Ext.drewN ?_ _)⟩
  · have HV := hid (show robR L C z = decide (z < leastR L C) by unfold robR; rw [h0]; rfl)
    (unfold Gives; go_enter Try.func34, Try.ntmps34)
    go_wp2_with (go_at_call 32; refine (HG.out _ (HL.out.ext (by repeat (first | exact Ext.refl _ | refine Ext.alloc ?_ _ | assumption | refine Ext.over ?_ _ | refine Ext.drew ?_ | refine Ext.drewN ?_ _))) (HR.out.ext (by repeat (first | exact Ext.refl _ | refine Ext.alloc ?_ _ | assumption | refine Ext.over ?_ _ | refine Ext.drew ?_ | refine Ext.drewN ?_ _)))).over.mono ?_; rintro e w' ⟨rfl, xw, rfl⟩)
    go_ret
    exact ⟨by rw [HV.out]; rfl, by repeat (first | exact Ext.refl _ | refine Ext.alloc ?_ _ | assumption | refine Ext.over ?_ _ | refine Ext.drew ?_ | refine Ext.drewN ?_ _)⟩
set_option maxRecDepth 100000 in
theorem sRobust_any (A : Option Addr) (n c : Nat) (L : List T2) (B : Option Addr) (m d : Nat) (C : List T7) (z : Int) (w : World) (hl : Row w A (L.flatMap T2.v)) (hn : L.length = n) (hx : n ≤ 1048577) (hr : Row w B (C.flatMap T7.v)) (hm : C.length = m) (hy : m ≤ 1048577) : Gives Try.prog 33 #[.agg #[.slice A n c], .slice B m d, .int .i64 z] w (.bool (robR L C z)) := by
  have HL := hid hl
  have HR := hid hr
  have HG := hid (fun w' (h : Row w' A (L.flatMap T2.v)) (h' : Row w' B (C.flatMap T7.v)) => sLeast_any A n c L B m d C w' h hn hx h' hm hy)
  clear hl hr
  cases h0 : decide (0 ≤ z)
  · have HV := hid (show robR L C z = false by unfold robR; rw [h0]; rfl)
    (unfold Gives; go_enter Try.func33, Try.ntmps33)
    go_wp2_with fail
    go_ret
    exact ⟨by rw [HV.out]; rfl, by repeat (first | exact Ext.refl _ | refine Ext.alloc ?_ _ | assumption | refine Ext.over ?_ _ | refine Ext.drew ?_ | refine Ext.drewN ?_ _)⟩
  · have HV := hid (show robR L C z = decide (z < leastR L C) by unfold robR; rw [h0]; rfl)
    (unfold Gives; go_enter Try.func33, Try.ntmps33)
    go_wp2_with (go_at_call 31; refine (HG.out _ (HL.out.ext (by repeat (first | exact Ext.refl _ | refine Ext.alloc ?_ _ | assumption | refine Ext.over ?_ _ | refine Ext.drew ?_ | refine Ext.drewN ?_ _))) (HR.out.ext (by repeat (first | exact Ext.refl _ | refine Ext.alloc ?_ _ | assumption | refine Ext.over ?_ _ | refine Ext.drew ?_ | refine Ext.drewN ?_ _)))).over.mono ?_; rintro e w' ⟨rfl, xw, rfl⟩)
    go_ret
    exact ⟨by rw [HV.out]; rfl, by repeat (first | exact Ext.refl _ | refine Ext.alloc ?_ _ | assumption | refine Ext.over ?_ _ | refine Ext.drew ?_ | refine Ext.drewN ?_ _)⟩
end Go.Proofs.Ytmghngdafgebjaa
