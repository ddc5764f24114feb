/- Walks: films, filming, LeastFilming of the program. Conditions: a valid room, points of its floor. -/
import Derived.Test.YtelmpiaaaffmlaaCount
import Derived.Test.YtelmpiaaaffmlaaFloorS
import Derived.Test.YtelmpiaaaffmlaaFloorP
namespace Go.Proofs.Ytelmpiaaaffmlaa
open Go.RowKit
set_option linter.unusedVariables false

theorem film_on {L : List T2} (hr : roomS L = true) {x : T7} {p : T2} (hp : onFloor L p) : filmR L x p = (camOk x && inFc x p.a p.b && !(placeI L (camAt x) == 0) && seesS L (camAt x) p) := by
  have hip : isIn L p = true := by rw [isIn_val, hr, hp.1, beq_eq_false_iff_ne.2 hp.2]; rfl
  have hpp : pok p.a p.b = true := hp.1
  unfold filmR inFld seeR
  rw [hip, hpp, isIn_val, hr]
  cases h1 : camOk x
  · rfl
  · have : pokT (camAt x) = true := camOk_at h1
    rw [this]
    cases inFc x p.a p.b <;> cases (placeI L (camAt x) == 0) <;> simp
set_option maxRecDepth 100000 in
set_option maxHeartbeats 1600000 in
theorem films_any (A : Option Addr) (n c : Nat) (L : List T2) (x : T7) (p : T2) (w : World) (hl : Row w A (L.flatMap T2.v)) (hn : L.length = n) (hr : roomS L = true) (hp : onFloor L p) : Gives Try.prog 30 #[.agg #[.slice A n c], camV x, ptV p] w (.bool (filmR L x p)) := by
  have h10 := (roomP_of hr).hi
  rw [film_on hr hp]
  have H1 := hid (fun w' => iCameraOk_any x w')
  have H2 := hid (fun w' => inField_any x p.a p.b w')
  have H3 := hid (fun w' (h : Row w' A (L.flatMap T2.v)) => place_any A n c L (camAt x) w' h hn (by omega))
  have H4 := hid (fun (hc : camOk x = true) w' (h : Row w' A (L.flatMap T2.v)) => sees_any A n c L (camAt x) p w' h hn hr (camOk_at hc) hp.1)
  unfold ptV camAt camV at *
  cases h1 : camOk x
  · (unfold Gives; go_enter Try.func30, Try.ntmps30)
    go_wp2_with (go_at_call 13; refine (gives_b h1 (H1.out _)).over.mono ?_; rintro e w' ⟨rfl, xw, rfl⟩)
    go_ret
    exact ⟨rfl, by repeat (first | exact Ext.refl _ | refine Ext.alloc ?_ _ | assumption | refine Ext.over ?_ _ | refine Ext.drew ?_ | refine Ext.drewN ?_ _)⟩
  cases h2 : inFc x p.a p.b
  · (unfold Gives; go_enter Try.func30, Try.ntmps30)
    go_wp2_with (first | (go_at_call 13; refine (gives_b h1 (H1.out _)).over.mono ?_; rintro e w' ⟨rfl, xw, rfl⟩) | (go_at_call 33; refine (gives_b h2 (H2.out _)).over.mono ?_; rintro e w' ⟨rfl, xw, rfl⟩))
    go_ret
    exact ⟨rfl, by repeat (first | exact Ext.refl _ | refine Ext.alloc ?_ _ | assumption | refine Ext.over ?_ _ | refine Ext.drew ?_ | refine Ext.drewN ?_ _)⟩
  have HS := hid (H4.out h1)
  rcases place_range L ⟨x.a, x.b⟩ with h3 | h3 | h3
  · rw [h3]
    (unfold Gives; go_enter Try.func30, Try.ntmps30)
    go_wp2_with (first | (go_at_call 13; refine (gives_b h1 (H1.out _)).over.mono ?_; rintro e w' ⟨rfl, xw, rfl⟩) | (go_at_call 33; refine (gives_b h2 (H2.out _)).over.mono ?_; rintro e w' ⟨rfl, xw, rfl⟩) | (go_at_call 47; refine (gives_v h3 (H3.out _ (hl.ext (by repeat (first | exact Ext.refl _ | refine Ext.alloc ?_ _ | assumption | refine Ext.over ?_ _ | refine Ext.drew ?_ | refine Ext.drewN ?_ _))))).over.mono ?_; rintro e w' ⟨rfl, xw, rfl⟩))
    go_ret
    exact ⟨rfl, by repeat (first | exact Ext.refl _ | refine Ext.alloc ?_ _ | assumption | refine Ext.over ?_ _ | refine Ext.drew ?_ | refine Ext.drewN ?_ _)⟩
  all_goals
    rw [h3]
    (unfold Gives; go_enter Try.func30, Try.ntmps30)
    go_wp2_with (first | (go_at_call 13; refine (gives_b h1 (H1.out _)).over.mono ?_; rintro e w' ⟨rfl, xw, rfl⟩) | (go_at_call 33; refine (gives_b h2 (H2.out _)).over.mono ?_; rintro e w' ⟨rfl, xw, rfl⟩) | (go_at_call 47; refine (gives_v h3 (H3.out _ (hl.ext (by repeat (first | exact Ext.refl _ | refine Ext.alloc ?_ _ | assumption | refine Ext.over ?_ _ | refine Ext.drew ?_ | refine Ext.drewN ?_ _))))).over.mono ?_; rintro e w' ⟨rfl, xw, rfl⟩) | (go_at_call 32; refine (HS.out _ (hl.ext (by repeat (first | exact Ext.refl _ | refine Ext.alloc ?_ _ | assumption | refine Ext.over ?_ _ | refine Ext.drew ?_ | refine Ext.drewN ?_ _)))).over.mono ?_; rintro e w' ⟨rfl, xw, rfl⟩))
    go_ret
    exact ⟨rfl, by repeat (first | exact Ext.refl _ | refine Ext.alloc ?_ _ | assumption | refine Ext.over ?_ _ | refine Ext.drew ?_ | refine Ext.drewN ?_ _)⟩
set_option maxRecDepth 100000 in
set_option maxHeartbeats 1600000 in
theorem filming_any (A : Option Addr) (n c : Nat) (L : List T2) (B : Option Addr) (m d : Nat) (C : List T7) (p : T2) (w : World) (hl : Row w A (L.flatMap T2.v)) (hn : L.length = n) (hr : Row w B (C.flatMap T7.v)) (hm : C.length = m) (hy : m ≤ 1048577) (hro : roomS L = true) (hp : onFloor L p) : Gives Try.prog 39 #[.agg #[.slice A n c], .slice B m d, ptV p] w (.int .i64 (countR L C p)) := by
  subst hm
  have HL := hid hl
  have HR := hid hr
  have HF := hid (fun x w' (h : Row w' A (L.flatMap T2.v)) => films_any A n c L x p w' h hn hro hp)
  clear hl hr hro hp
  unfold ptV camV at *
  (unfold Gives; go_enter Try.func39, Try.ntmps39)
  go_wp2_with fail
  obtain ⟨wt, hwt⟩ : ∃ wt, wt = (w.alloc (.cells #[.slice A n c] 26)).alloc (.cells #[.int .i64 p.a, .int .i64 p.b] 28) := ⟨_, rfl⟩
  have het : Ext w wt := by rw [hwt]; repeat (first | exact Ext.refl _ | refine Ext.alloc ?_ _ | assumption | refine Ext.over ?_ _ | refine Ext.drew ?_ | refine Ext.drewN ?_ _)
  have b0 : wt.cell? ⟨w.heap.size, 0, none⟩ = some (.slice A n c) := by rw [hwt]; go_simp
  have b1 : wt.cell? ⟨w.heap.size + 1, 0, none⟩ = some (.int .i64 p.a) := by rw [hwt]; go_simp
  have b2 : wt.cell? ⟨w.heap.size + 1, 1, none⟩ = some (.int .i64 p.b) := by rw [hwt]; go_simp
  have HT := hid het
  rw [← hwt]
  generalize w.heap.size = gr at b0 b1 b2 ⊢
  clear hwt het
  go_loopw [7, 12] (fun sv kv wr => ∃ (k z : Nat), k ≤ C.length ∧ kv = .int .i64 ↑k ∧ sv = .int .i64 ↑z ∧ cntN (fun k => filmR L (at7 C k) p) k = z ∧ Ext wt wr) (fun _ kv _ => C.length - (intOf kv).toNat)
  case atStart => exact ⟨0, 0, by omega, rfl, rfl, rfl, by repeat (first | exact Ext.refl _ | refine Ext.alloc ?_ _ | assumption | refine Ext.over ?_ _ | refine Ext.drew ?_ | refine Ext.drewN ?_ _)⟩
  case round =>
    obtain ⟨k, z, hk, rfl, rfl, hz, he⟩ := hrel
    have hzk := cntN_le (fun k => filmR L (at7 C k) p) k
    rw [hz] at hzk
    have HZ := hid hz
    have HE := hid he
    have HX := hid (HT.out.trans he)
    have r0 := old_cell he b0
    have r1 := old_cell he b1
    have r2 := old_cell he b2
    clear hz he
    by_cases hlt : k < C.length
    · obtain ⟨blk, off, hB, hc⟩ := (HR.out.ext HX.out).t7 hlt
      obtain ⟨c1, c2, c3, c4, c5, c6, c7⟩ := hc k hlt
      have HYES := hid (fun h => cntN_yes (p := fun k => filmR L (at7 C k) p) (k := k) h)
      have HNO := hid (fun h => cntN_no (p := fun k => filmR L (at7 C k) p) (k := k) h)
      have HFX := hid (HF.out (at7 C k))
      subst hB
      rw [HZ.out] at HYES HNO
      try simp only at HYES HNO
      generalize at7 C k = x at c1 c2 c3 c4 c5 c6 c7 HYES HNO HFX
      clear hc
      cases hf : filmR L x p
      · have HN := hid (HNO.out hf)
        go_wp2_with (go_at_call 30; refine (gives_b hf (HFX.out _ (HL.out.ext (HX.out.trans (by repeat (first | exact Ext.refl _ | refine Ext.alloc ?_ _ | assumption | refine Ext.over ?_ _ | refine Ext.drew ?_ | refine Ext.drewN ?_ _)))))).over.mono ?_; rintro e w' ⟨rfl, xw, rfl⟩)
        go_roundw
        case rel => exact ⟨k + 1, z, by omega, by go_num, rfl, HN.out, HE.out.trans (by repeat (first | exact Ext.refl _ | refine Ext.alloc ?_ _ | assumption | refine Ext.over ?_ _ | refine Ext.drew ?_ | refine Ext.drewN ?_ _))⟩
        case measure => simp [intOf]; omega
      · have HN := hid (HYES.out hf)
        go_wp2_with (go_at_call 30; refine (gives_b hf (HFX.out _ (HL.out.ext (HX.out.trans (by repeat (first | exact Ext.refl _ | refine Ext.alloc ?_ _ | assumption | refine Ext.over ?_ _ | refine Ext.drew ?_ | refine Ext.drewN ?_ _)))))).over.mono ?_; rintro e w' ⟨rfl, xw, rfl⟩)
        go_roundw
        case rel => exact ⟨k + 1, z + 1, by omega, by go_num, by go_num, HN.out, HE.out.trans (by repeat (first | exact Ext.refl _ | refine Ext.alloc ?_ _ | assumption | refine Ext.over ?_ _ | refine Ext.drew ?_ | refine Ext.drewN ?_ _))⟩
        case measure => simp [intOf]; omega
    · obtain rfl : k = C.length := by omega
      have HV := hid (show countR L C p = z from HZ.out)
      go_wp2_with fail
      go_ret
      exact ⟨by rw [HV.out]; rfl, HX.out⟩
def leastN (L : List T2) (C : List T7) (F : List T2) : Nat → Nat
  | 0 => C.length
  | k + 1 => min (leastN L C F k) (countR L C (at2 F k))
theorem leastN_le (L : List T2) (C : List T7) (F : List T2) : ∀ k, leastN L C F k ≤ C.length
  | 0 => Nat.le_refl _
  | k + 1 => by have := leastN_le L C F k; simp only [leastN]; omega
theorem countR_le (L : List T2) (C : List T7) (p : T2) : countR L C p ≤ C.length := cntN_le _ _
def leastR (L : List T2) (C : List T7) : Int := if roomS L && decide (C.length ≤ 6) then leastN L C (floorL L) (floorL L).length else -1
set_option maxRecDepth 100000 in
set_option maxHeartbeats 1600000 in
theorem iLeast_any (A : Option Addr) (n c : Nat) (L : List T2) (B : Option Addr) (m d : Nat) (C : List T7) (w : World) (hl : Row w A (L.flatMap T2.v)) (hn : L.length = n) (hx : n ≤ 1048577) (hr : Row w B (C.flatMap T7.v)) (hm : C.length = m) (hy : m ≤ 1048577) : Gives Try.prog 16 #[.agg #[.slice A n c], .slice B m d] w (.int .i64 (leastR L C)) := by
  subst hm
  have HL := hid hl
  have HR := hid hr
  clear hl hr
  cases hro : roomS L
  · have HV := hid (show leastR L C = -1 by unfold leastR; rw [hro]; rfl)
    (unfold Gives; go_enter Try.func16, Try.ntmps16)
    go_wp2_with (go_at_call 38; refine (gives_b hro (iRoom_any A n c L _ (HL.out.ext (by repeat (first | exact Ext.refl _ | refine Ext.alloc ?_ _ | assumption | refine Ext.over ?_ _ | refine Ext.drew ?_ | refine Ext.drewN ?_ _))) hn hx)).over.mono ?_; rintro e w' ⟨rfl, xw, rfl⟩)
    go_ret
    exact ⟨by rw [HV.out]; rfl, by repeat (first | exact Ext.refl _ | refine Ext.alloc ?_ _ | assumption | refine Ext.over ?_ _ | refine Ext.drew ?_ | refine Ext.drewN ?_ _)⟩
  by_cases h6 : C.length ≤ 6
  rotate_left
  · have HV := hid (show leastR L C = -1 by unfold leastR; rw [decide_eq_false h6]; simp)
    have h6' : (6 : Int) < C.length := by omega
    (unfold Gives; go_enter Try.func16, Try.ntmps16)
    go_wp2_with (go_at_call 38; refine (gives_b hro (iRoom_any A n c L _ (HL.out.ext (by repeat (first | exact Ext.refl _ | refine Ext.alloc ?_ _ | assumption | refine Ext.over ?_ _ | refine Ext.drew ?_ | refine Ext.drewN ?_ _))) hn hx)).over.mono ?_; rintro e w' ⟨rfl, xw, rfl⟩)
    go_ret
    exact ⟨by rw [HV.out]; rfl, by repeat (first | exact Ext.refl _ | refine Ext.alloc ?_ _ | assumption | refine Ext.over ?_ _ | refine Ext.drew ?_ | refine Ext.drewN ?_ _)⟩
  have HV := hid (show leastR L C = leastN L C (floorL L) (floorL L).length by unfold leastR; rw [hro, decide_eq_true h6]; rfl)
  have h6' : (C.length : Int) ≤ 6 := by omega
  have HFO := hid (fun k hk => floor_at hro (k := k) hk)
  have hfl := floor_len hro
  have HFM := hid (fun p hp w' (h : Row w' A (L.flatMap T2.v)) (h' : Row w' B (C.flatMap T7.v)) => filming_any A n c L B C.length d C p w' h hn h' rfl hy hro hp)
  unfold ptV at HFM
  (unfold Gives; go_enter Try.func16, Try.ntmps16)
  go_wp2_with (go_at_call 38; refine (gives_b hro (iRoom_any A n c L _ (HL.out.ext (by repeat (first | exact Ext.refl _ | refine Ext.alloc ?_ _ | assumption | refine Ext.over ?_ _ | refine Ext.drew ?_ | refine Ext.drewN ?_ _))) hn hx)).over.mono ?_; rintro e w' ⟨rfl, xw, rfl⟩)
  refine (floor_any A n c L _ (HL.out.ext (by repeat (first | exact Ext.refl _ | refine Ext.alloc ?_ _ | assumption | refine Ext.over ?_ _ | refine Ext.drew ?_ | refine Ext.drewN ?_ _))) hn hro).mono ?_
  rintro _ w1 ⟨D, q, c1, rfl, ho, he⟩
  have hq := own_len2 ho
  have b0 : w1.cell? ⟨w.heap.size, 0, none⟩ = some (.slice A n c) := old_cell he (by go_simp)
  have H1 := hid (Ext.trans (show Ext w _ by repeat (first | exact Ext.refl _ | refine Ext.alloc ?_ _ | assumption | refine Ext.over ?_ _ | refine Ext.drew ?_ | refine Ext.drewN ?_ _)) he)
  have HD := hid (Row.of_own ho)
  generalize w.heap.size = gr at b0 ⊢
  generalize hF : floorL L = F at *
  subst hq
  clear ho he
  go_wp2_with fail
  go_loopw [5, 21] (fun sv kv wr => ∃ (k z : Nat), k ≤ F.length ∧ kv = .int .i64 ↑k ∧ sv = .int .i64 ↑z ∧ leastN L C F k = z ∧ Ext w1 wr) (fun _ kv _ => F.length - (intOf kv).toNat)
  case atStart => exact ⟨0, C.length, by omega, rfl, rfl, rfl, Ext.refl _⟩
  case round =>
    obtain ⟨k, z, hk, rfl, rfl, hz, he⟩ := hrel
    have hzk := leastN_le L C F k
    rw [hz] at hzk
    have HZ := hid hz
    have HE := hid he
    have HX := hid (H1.out.trans he)
    have r0 := old_cell he b0
    clear hz he
    by_cases hlt : k < F.length
    · obtain ⟨blk, off, hB, hc⟩ := (HD.out.ext HE.out).t2 hlt
      obtain ⟨c1, c2⟩ := hc k hlt
      have HS := hid (show leastN L C F (k + 1) = min z (countR L C (at2 F k)) by rw [← HZ.out]; rfl)
      have HM := hid (HFM.out (at2 F k) (HFO.out k hlt))
      have hcl := countR_le L C (at2 F k)
      subst hB
      generalize at2 F k = p at c1 c2 HS HM hcl
      generalize hcv : countR L C p = v at HS HM hcl
      clear hc hcv
      have hzb : (z : Int) ≤ 6 := by omega
      have hvb : (v : Int) ≤ 6 := by omega
      go_wp2_with (go_at_call 39; refine (HM.out _ (HL.out.ext (HX.out.trans (by repeat (first | exact Ext.refl _ | refine Ext.alloc ?_ _ | assumption | refine Ext.over ?_ _ | refine Ext.drew ?_ | refine Ext.drewN ?_ _)))) (HR.out.ext (HX.out.trans (by repeat (first | exact Ext.refl _ | refine Ext.alloc ?_ _ | assumption | refine Ext.over ?_ _ | refine Ext.drew ?_ | refine Ext.drewN ?_ _))))).over.mono ?_; rintro e w' ⟨rfl, xw, rfl⟩)
      go_roundw
      case rel => exact ⟨k + 1, min z v, by omega, by go_num, by congr 1; first | omega | (split <;> omega), HS.out, HE.out.trans (by repeat (first | exact Ext.refl _ | refine Ext.alloc ?_ _ | assumption | refine Ext.over ?_ _ | refine Ext.drew ?_ | refine Ext.drewN ?_ _))⟩
      case measure => simp [intOf]; omega
    · obtain rfl : k = F.length := by omega
      go_wp2_with fail
      go_ret
      exact ⟨by rw [HV.out, HZ.out]; rfl, HX.out⟩
end Go.Proofs.Ytelmpiaaaffmlaa
