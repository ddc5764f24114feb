/- Walks: the program's sight. Conditions: a valid room, valid points. -/
import Derived.Test.YtkifapcegiajiaaCorners
namespace Go.Proofs.Ytkifapcegiajiaa
open Go.RowKit
set_option linter.unusedVariables false

theorem seesS_cross {L : List T2} {a b : T2} {k : Nat} (hk : k < L.length) (h : crossP a b (at2 L k) (nxt L k) = true) : seesS L a b = false := by
  unfold seesS noCross; rw [allN_false hk (by rw [h]; rfl)]; rfl
theorem stepsI_no {L ws : List T2} {i : Nat} (hi : i + 1 < ws.length) (h : placeI (dblL L) (midP (at2 ws i) (at2 ws (i + 1))) = 0) : stepsI L ws = false := by
  unfold stepsI; exact allN_false (k := i) (by omega) (by rw [h]; rfl)
set_option maxHeartbeats 3200000 in
set_option maxRecDepth 100000 in
theorem sees_any (A : Option Addr) (n c : Nat) (L : List T2) (a b : T2) (w : World) (hl : Row w A (L.flatMap T2.v)) (hn : L.length = n) (hr : roomS L = true) (ha : pokT a = true) (hb : pokT b = true) : Gives Try.prog 39 #[.agg #[.slice A n c], ptV a, ptV b] w (.bool (seesS L a b)) := by
  subst hn
  have hp := roomP_of hr
  have h10 := hp.hi
  have HP := hid hp
  have HL := hid hl
  have HR := hid hr
  have HA := hid ha
  have HB := hid hb
  clear hl hr ha hb hp
  have HCO := hid (fun w' hl' => cornersBetween_any A L.length c L a b w' hl' rfl HR.out HA.out HB.out)
  have HCR := hid (fun p q w' => iCross_any p q a b w')
  unfold ptV wallV at *
  (unfold Gives; go_enter Try.func39, Try.ntmps39)
  go_wp2_with fail
  obtain ⟨wt, hwt⟩ : ∃ wt, wt = ((w.alloc (.cells #[.slice A L.length c] 33)).alloc (.cells #[.int .i64 a.a, .int .i64 a.b] 35)).alloc (.cells #[.int .i64 b.a, .int .i64 b.b] 35) := ⟨_, rfl⟩
  have het : Ext w wt := by rw [hwt]; repeat (first | exact Ext.refl _ | refine Ext.alloc ?_ _ | assumption | refine Ext.over ?_ _ | refine Ext.drew ?_ | refine Ext.drewN ?_ _)
  have b0 : wt.cell? ⟨w.heap.size, 0, none⟩ = some (.slice A L.length c) := by rw [hwt]; go_simp
  have b1 : wt.cell? ⟨w.heap.size + 1, 0, none⟩ = some (.int .i64 a.a) := by rw [hwt]; go_simp
  have b2 : wt.cell? ⟨w.heap.size + 1, 1, none⟩ = some (.int .i64 a.b) := by rw [hwt]; go_simp
  have b3 : wt.cell? ⟨w.heap.size + 1 + 1, 0, none⟩ = some (.int .i64 b.a) := by rw [hwt]; go_simp
  have b4 : wt.cell? ⟨w.heap.size + 1 + 1, 1, none⟩ = some (.int .i64 b.b) := by rw [hwt]; go_simp
  have HT := hid het
  rw [← hwt]
  generalize w.heap.size = gr at b0 b1 b2 b3 b4 ⊢
  clear hwt het
  refine (wallsOf_any A L.length c L _ (HL.out.ext HT.out) rfl (by omega)).mono ?_
  rintro _ w1 ⟨B, c', rfl, ho, he⟩
  have HO := hid (Row.of_own ho)
  have H1 := hid (HT.out.trans he)
  have b0 := old_cell he b0
  have b1 := old_cell he b1
  have b2 := old_cell he b2
  have b3 := old_cell he b3
  have b4 := old_cell he b4
  clear ho he HT
  go_wp2_with fail
  go_loopw [15] (fun kv wr => ∃ (k : Nat), k ≤ L.length ∧ kv = .int .i64 ↑k ∧ (∀ j, j < k → crossP a b (at2 L j) (nxt L j) = false) ∧ Ext w1 wr) (fun kv _ => L.length - (intOf kv).toNat)
  case atStart => exact ⟨0, by omega, rfl, by omega, Ext.refl _⟩
  case round =>
    obtain ⟨k, hk, rfl, hc, he⟩ := hrel
    have HC := hid hc
    have HE := hid he
    have HX := hid (H1.out.trans he)
    have r0 := old_cell he b0
    have r1 := old_cell he b1
    have r2 := old_cell he b2
    have r3 := old_cell he b3
    have r4 := old_cell he b4
    clear hc he
    by_cases hlt : k < L.length
    · obtain ⟨bk, off, rfl, hcb⟩ := (HO.out.ext HE.out).w4 hlt
      obtain ⟨c1, c2, c3, c4⟩ := hcb k hlt
      have HYES := hid (fun h => seesS_cross (a := a) (b := b) hlt h)
      have HNO := hid (fun h => lt_succ_all (k := k) HC.out h)
      clear hcb
      generalize nxt L k = q at c3 c4 HYES HNO
      generalize at2 L k = p at c1 c2 HYES HNO
      cases hx : crossP a b p q
      · have HN := hid (HNO.out hx)
        go_wp2_with (go_at_call 66; refine (gives_b hx (HCR.out p q _)).over.mono ?_; rintro e w' ⟨rfl, xw, rfl⟩)
        go_roundw
        case rel => exact ⟨k + 1, by omega, by go_num, HN.out, HE.out.trans (by repeat (first | exact Ext.refl _ | refine Ext.alloc ?_ _ | assumption | refine Ext.over ?_ _ | refine Ext.drew ?_ | refine Ext.drewN ?_ _))⟩
        case measure => simp [intOf]; omega
      · have HV := hid (HYES.out hx)
        go_wp2_with (go_at_call 66; refine (gives_b hx (HCR.out p q _)).over.mono ?_; rintro e w' ⟨rfl, xw, rfl⟩)
        go_ret
        exact ⟨by rw [HV.out]; rfl, HX.out.trans (by repeat (first | exact Ext.refl _ | refine Ext.alloc ?_ _ | assumption | refine Ext.over ?_ _ | refine Ext.drew ?_ | refine Ext.drewN ?_ _))⟩
    · obtain rfl : k = L.length := by omega
      have HV := hid (show seesS L a b = pairsC L (cutsL L a b L.length) by unfold seesS noCross; rw [allN_true (fun j hj => by rw [HC.out j hj]; rfl)]; rfl)
      go_wp2_with fail
      refine (HCO.out _ (HL.out.ext (HX.out.trans (by repeat (first | exact Ext.refl _ | refine Ext.alloc ?_ _ | assumption | refine Ext.over ?_ _ | refine Ext.drew ?_ | refine Ext.drewN ?_ _))))).mono ?_
      rintro _ w2 ⟨B2, m, c2, ws, rfl, hpm, hsk, ho, he2⟩
      have hm := own_len2p ho
      have HVV := hid (HV.out.trans (steps_pairs HP.out HA.out HB.out hpm (by rw [hm]; exact hsk)).symm)
      have HR2 := hid (Row.of_own ho)
      have H2 := hid (HX.out.trans he2)
      have d0 := old_cell he2 r0
      have hm12 : m ≤ 12 := by have h5 := hpm.length_eq; have h6 := (cutsL_len L a b L.length).2; omega
      subst hm
      clear ho he2 hpm hsk b0 b1 b2 b3 b4 r0 r1 r2 r3 r4 HE HC
      go_wp2_with fail
      go_loopw [10] (fun iv wr => ∃ (i : Nat), 1 ≤ i ∧ (i ≤ ws.length ∨ i = 1) ∧ iv = .int .i64 ↑i ∧ (∀ j, j + 1 < i → ¬ placeI (dblL L) (midP (at2 ws j) (at2 ws (j + 1))) = 0) ∧ Ext w2 wr) (fun iv _ => ws.length + 1 - (intOf iv).toNat)
      case atStart => exact ⟨1, by omega, by omega, by go_num, (fun j hj => by omega), Ext.refl _⟩
      case round =>
        obtain ⟨i, hi, hil, rfl, hok, he⟩ := hrel
        have HK := hid hok
        have HE := hid he
        have HX := hid (H2.out.trans he)
        have r0 := old_cell he d0
        clear hok he
        by_cases hlt : i < ws.length
        · obtain ⟨im, him⟩ : ∃ im, im = i - 1 := ⟨_, rfl⟩
          have hwj : IntKind.i64.wrap ((i : Int) - 1) = (im : Int) := by rw [IntWalk.i64_in _ (by omega)]; omega
          have hi' : (i : Int) < ws.length := by omega
          have him' : (im : Int) < ws.length := by omega
          obtain ⟨bk, off, rfl, hcb⟩ := (HR2.out.ext HE.out).t2 hlt
          obtain ⟨c1, c2⟩ := hcb i hlt
          obtain ⟨e1, e2⟩ := hcb im (by omega)
          have HNO := hid (fun (h : placeI (dblL L) (midP (at2 ws im) (at2 ws i)) = 0) => stepsI_no (L := L) (ws := ws) (i := im) (by omega) (by rw [show im + 1 = i by omega]; exact h))
          have HYES := hid (fun (h : ¬ placeI (dblL L) (midP (at2 ws im) (at2 ws i)) = 0) j (hj : j + 1 < i + 1) => (show ¬ placeI (dblL L) (midP (at2 ws j) (at2 ws (j + 1))) = 0 by
            rcases Nat.lt_or_ge (j + 1) i with h5 | h5
            · exact HK.out j h5
            · rw [show j = im by omega, show im + 1 = i by omega]; exact h))
          have HML := hid (fun w' (h : Row w' A (L.flatMap T2.v)) => middle_any A L.length c L (at2 ws im) (at2 ws i) w' h rfl (by omega))
          clear hcb him
          generalize at2 ws i = p at c1 c2 HNO HYES HML
          generalize at2 ws im = q at e1 e2 HNO HYES HML
          unfold ptV at HML
          rcases place_range (dblL L) (midP q p) with h0 | h0 | h0
          · have HV2 := hid (HVV.out.trans (HNO.out h0))
            go_wp2_with fail
            (refine wp_region_calm (by kernel_rfl) (by kernel_rfl) ?_; (repeat (go_big_quiet_step ((go_at_call 68; exact (gives_v h0 (HML.out _ (HL.out.ext (HX.out.trans (by repeat (first | exact Ext.refl _ | refine Ext.alloc ?_ _ | assumption | refine Ext.over ?_ _ | refine Ext.drew ?_ | refine Ext.drewN ?_ _)))))).calm)))); refine wpQuiet_nil ?_; rintro w1 ⟨x1, rfl⟩)
            go_wp2_with fail
            go_ret
            exact ⟨by rw [HV2.out]; rfl, HX.out.trans (by repeat (first | exact Ext.refl _ | refine Ext.alloc ?_ _ | assumption | refine Ext.over ?_ _ | refine Ext.drew ?_ | refine Ext.drewN ?_ _))⟩
          all_goals
            have HN := hid (HYES.out (by omega))
            go_wp2_with fail
            (refine wp_region_calm (by kernel_rfl) (by kernel_rfl) ?_; (repeat (go_big_quiet_step ((go_at_call 68; exact (gives_v h0 (HML.out _ (HL.out.ext (HX.out.trans (by repeat (first | exact Ext.refl _ | refine Ext.alloc ?_ _ | assumption | refine Ext.over ?_ _ | refine Ext.drew ?_ | refine Ext.drewN ?_ _)))))).calm)))); refine wpQuiet_nil ?_; rintro w1 ⟨x1, rfl⟩)
            go_wp2_with fail
            go_roundw
            case rel => exact ⟨i + 1, by omega, by omega, by go_num, HN.out, HE.out.trans (by repeat (first | exact Ext.refl _ | refine Ext.alloc ?_ _ | assumption | refine Ext.over ?_ _ | refine Ext.drew ?_ | refine Ext.drewN ?_ _))⟩
            case measure => simp [intOf]; omega
        · have HV2 := hid (HVV.out.trans (show stepsI L ws = true by
            unfold stepsI
            refine allN_true fun j hj => ?_
            have := HK.out j (by omega)
            simpa using this))
          go_wp2_with fail
          go_ret
          exact ⟨by rw [HV2.out]; rfl, HX.out⟩
end Go.Proofs.Ytkifapcegiajiaa
