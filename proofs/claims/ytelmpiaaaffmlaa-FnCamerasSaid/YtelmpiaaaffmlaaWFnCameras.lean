/- The walk of FnCameras: it returns true. Conditions: its arguments read as lists. (P25) -/
import Derived.Test.YtelmpiaaaffmlaaMFnCameras
namespace Go.Proofs.Ytelmpiaaaffmlaa
open Go.RowKit
set_option linter.unusedVariables false
namespace fnCameras
set_option maxHeartbeats 1600000 in
set_option maxRecDepth 100000 in
theorem walk (w : World) (A0 : Option Addr) (n0 c0 : Nat) (zs0 : List Int) (hr0 : Row w A0 (zs0.map (Value.int .u8))) (hl0 : zs0.length = n0) (hn0 : n0 ≤ maxLen) (hz0 : ∀ z ∈ zs0, 0 ≤ z ∧ z ≤ 255) : Gives Try.prog 3 #[.slice A0 n0 c0] w (.bool true) := by
  unfold maxLen at hn0
  have HZ := hid hz0
  clear hz0
  by_cases hbig : (1048576 : Int) < n0
  · have hb := decide_eq_true hbig
    (unfold Gives; go_enter Try.func3, Try.ntmps3)
    go_wp2_with (go_at_call 5; refine (gives_b hb (big_any _ _ _ _)).over.mono ?_; rintro e w' ⟨rfl, xw, rfl⟩)
    go_ret
    exact ⟨rfl, by repeat (first | exact Ext.refl _ | refine Ext.alloc ?_ _ | assumption | refine Ext.over ?_ _ | refine Ext.drew ?_ | refine Ext.drewN ?_ _)⟩
  have hb := decide_eq_false hbig
  (unfold Gives; go_enter Try.func3, Try.ntmps3)
  go_wp2_with (go_at_call 5; refine (gives_b hb (big_any _ _ _ _)).over.mono ?_; rintro e w' ⟨rfl, xw, rfl⟩)
  refine (DrawCamera_any A0 n0 c0 zs0 _ (hr0.ext (by repeat (first | exact Ext.refl _ | refine Ext.alloc ?_ _ | assumption | refine Ext.over ?_ _ | refine Ext.drew ?_ | refine Ext.drewN ?_ _))) hl0 (by omega) HZ.out).mono ?_
  rintro _ w1 ⟨A, n, c, L, x, rfl, hll, hrm, hfl, hcd, hrow, he⟩
  have hN := hcd.camN (floor_near hrm (by omega) hfl)
  have hn10 : n ≤ 10 := by have := hrm.len; omega
  have HLL := hid hll
  have HE := hid (Ext.trans (show Ext w _ by repeat (first | exact Ext.refl _ | refine Ext.alloc ?_ _ | assumption | refine Ext.over ?_ _ | refine Ext.drew ?_ | refine Ext.drewN ?_ _)) he)
  have HR := hid hrow
  have HT1 := hid (fun w' => (show Gives Try.prog 7 #[camV x] w' (.tuple #[camV (rot x), .bool true]) from by have := iTurnCamera_any x w'; rwa [hN.turnN.1, hN.turnN.2] at this))
  have HT2 := hid (fun w' => (show Gives Try.prog 7 #[camV (rot x)] w' (.tuple #[camV (rot (rot x)), .bool true]) from by have := iTurnCamera_any (rot x) w'; rwa [hN.rotN.turnN.1, hN.rotN.turnN.2] at this))
  have HT3 := hid (fun w' => (show Gives Try.prog 7 #[camV (rot (rot x))] w' (.tuple #[camV (rot (rot (rot x))), .bool true]) from by have := iTurnCamera_any (rot (rot x)) w'; rwa [hN.rotN.rotN.turnN.1, hN.rotN.rotN.turnN.2] at this))
  have HT4 := hid (fun w' => (show Gives Try.prog 7 #[camV (rot (rot (rot x)))] w' (.tuple #[camV x, .bool true]) from by have := iTurnCamera_any (rot (rot (rot x))) w'; rwa [hN.rotN.rotN.rotN.turnN.1, hN.rotN.rotN.rotN.turnN.2, rot4] at this))
  have HFB := hid (fun w' (h : Row w' A (L.flatMap T2.v)) => iFilmed_any A n c L x w' h hll (by omega))
  have HFI := hid (fun p (hp : p ∈ filmedL L x) w' (h : Row w' A (L.flatMap T2.v)) => gives_b (filmed_film hp) (iFilms_any A n c L x p w' h hll (by omega)))
  have HSE := hid (fun p (hp : p ∈ filmedL L x) w' (h : Row w' A (L.flatMap T2.v)) => gives_b (show seeR L (camAt x) p = true by have := filmed_film hp; unfold filmR at this; simp only [Bool.and_eq_true] at this; exact this.2) (iSees_any A n c L (camAt x) p w' h hll (by omega)))
  have HIF := hid (fun p (hp : p ∈ filmedL L x) w' => gives_b (show inFld x p.a p.b = true by have := filmed_film hp; unfold filmR at this; simp only [Bool.and_eq_true] at this; exact this.1) (iInField_any x p.a p.b w'))
  have HIR := hid (fun p (hp : p ∈ filmedL L x) (ht : pokT (rotP x p) = true) w' => gives_b (rot_field hN (show inFld x p.a p.b = true by have := filmed_film hp; unfold filmR at this; simp only [Bool.and_eq_true] at this; exact this.1) ht) (iInField_any (rot x) (rotP x p).a (rotP x p).b w'))
  have HPB := hid (fun p (hp : p ∈ filmedL L x) => (show (-40 ≤ p.a ∧ p.a ≤ 40) ∧ (-40 ≤ p.b ∧ p.b ≤ 40) by have := filmed_film hp; unfold filmR inFld at this; simp only [Bool.and_eq_true] at this; have h2 := pok_iff.1 this.1.2.1; omega))
  have HIS := hid (fun w' => gives_b (field_self hN) (iInField_any x x.a x.b w'))
  have HCK := hid (fun w' => gives_b hN.rotN.ok (iCameraOk_any (rot x) w'))
  have HPOS := hid (show 0 < (filmedL L x).length from List.length_pos_of_mem (filmed_self hrm.1 hN hfl))
  have HFLN := hid (filmedL_len L x)
  have HNE := hid (rot_ne hN)
  have HRP := hid (fun p => (show rotP x p = ⟨x.a - (p.b - x.b), x.b + p.a - x.a⟩ from rfl))
  have hxb : (-18 ≤ x.a ∧ x.a ≤ 18) ∧ (-18 ≤ x.b ∧ x.b ≤ 18) := hN.1.1
  have HYA := hid (show (rot x).a = x.a ∧ (rot x).b = x.b ∧ (rot x).g = x.g from ⟨rfl, rfl, rfl⟩)
  clear hll hrm hfl hcd hrow he hN hbig hb
  generalize rot (rot (rot x)) = u at HT3 HT4
  generalize rot (rot x) = z at HT2 HT3
  generalize rot x = y at HT1 HT2 HIR HCK HNE HYA
  generalize filmedL L x = F at *
  unfold camV camAt ptV at *
  go_wp2_with fail
  obtain ⟨wa, hwa⟩ : ∃ wa, wa = (w1.alloc (.cells #[.slice A n c] 26)).alloc (.cells #[.int .i64 x.a, .int .i64 x.b, .int .i64 x.c, .int .i64 x.d, .int .i64 x.e, .int .i64 x.f, .int .i64 x.g] 30) := ⟨_, rfl⟩
  have ea : Ext w1 wa := by rw [hwa]; repeat (first | exact Ext.refl _ | refine Ext.alloc ?_ _ | assumption | refine Ext.over ?_ _ | refine Ext.drew ?_ | refine Ext.drewN ?_ _)
  have r0 : wa.cell? ⟨w1.heap.size, 0, none⟩ = some (.slice A n c) := by rw [hwa]; go_simp
  have k0 : wa.cell? ⟨w1.heap.size + 1, 0, none⟩ = some (.int .i64 x.a) := by rw [hwa]; go_simp
  have k1 : wa.cell? ⟨w1.heap.size + 1, 1, none⟩ = some (.int .i64 x.b) := by rw [hwa]; go_simp
  have k2 : wa.cell? ⟨w1.heap.size + 1, 2, none⟩ = some (.int .i64 x.c) := by rw [hwa]; go_simp
  have k3 : wa.cell? ⟨w1.heap.size + 1, 3, none⟩ = some (.int .i64 x.d) := by rw [hwa]; go_simp
  have k4 : wa.cell? ⟨w1.heap.size + 1, 4, none⟩ = some (.int .i64 x.e) := by rw [hwa]; go_simp
  have k5 : wa.cell? ⟨w1.heap.size + 1, 5, none⟩ = some (.int .i64 x.f) := by rw [hwa]; go_simp
  have k6 : wa.cell? ⟨w1.heap.size + 1, 6, none⟩ = some (.int .i64 x.g) := by rw [hwa]; go_simp
  have HEA := hid (HE.out.trans ea)
  have HXA := hid ea
  refine (HT1.out _).mono ?_
  rw [← hwa]
  clear hwa
  obtain ⟨br, hbr⟩ : ∃ br, br = w1.heap.size := ⟨_, rfl⟩
  rw [← hbr] at r0 k0 k1 k2 k3 k4 k5 k6 ⊢
  clear hbr
  rintro _ w2 ⟨rfl, e2⟩
  have r0 := old_cell e2 r0
  have k0 := old_cell e2 k0
  have k1 := old_cell e2 k1
  have k2 := old_cell e2 k2
  have k3 := old_cell e2 k3
  have k4 := old_cell e2 k4
  have k5 := old_cell e2 k5
  have k6 := old_cell e2 k6
  have HEB := hid (HEA.out.trans e2)
  have HXB := hid (HXA.out.trans e2)
  clear e2 HEA ea
  go_wp2_with fail
  obtain ⟨wb, hwb⟩ : ∃ wb, wb = w2.alloc (.cells #[.int .i64 y.a, .int .i64 y.b, .int .i64 y.c, .int .i64 y.d, .int .i64 y.e, .int .i64 y.f, .int .i64 y.g] 30) := ⟨_, rfl⟩
  have eb : Ext w2 wb := by rw [hwb]; repeat (first | exact Ext.refl _ | refine Ext.alloc ?_ _ | assumption | refine Ext.over ?_ _ | refine Ext.drew ?_ | refine Ext.drewN ?_ _)
  have y0 : wb.cell? ⟨w2.heap.size, 0, none⟩ = some (.int .i64 y.a) := by rw [hwb]; go_simp
  have y1 : wb.cell? ⟨w2.heap.size, 1, none⟩ = some (.int .i64 y.b) := by rw [hwb]; go_simp
  have y2 : wb.cell? ⟨w2.heap.size, 2, none⟩ = some (.int .i64 y.c) := by rw [hwb]; go_simp
  have y3 : wb.cell? ⟨w2.heap.size, 3, none⟩ = some (.int .i64 y.d) := by rw [hwb]; go_simp
  have y4 : wb.cell? ⟨w2.heap.size, 4, none⟩ = some (.int .i64 y.e) := by rw [hwb]; go_simp
  have y5 : wb.cell? ⟨w2.heap.size, 5, none⟩ = some (.int .i64 y.f) := by rw [hwb]; go_simp
  have y6 : wb.cell? ⟨w2.heap.size, 6, none⟩ = some (.int .i64 y.g) := by rw [hwb]; go_simp
  have r0 := old_cell eb r0
  have k0 := old_cell eb k0
  have k1 := old_cell eb k1
  have k2 := old_cell eb k2
  have k3 := old_cell eb k3
  have k4 := old_cell eb k4
  have k5 := old_cell eb k5
  have k6 := old_cell eb k6
  have HEB2 := hid (HEB.out.trans eb)
  have HXB2 := hid (HXB.out.trans eb)
  refine (HT2.out _).mono ?_
  rw [← hwb]
  clear hwb
  obtain ⟨by', hby⟩ : ∃ by', by' = w2.heap.size := ⟨_, rfl⟩
  rw [← hby] at y0 y1 y2 y3 y4 y5 y6 ⊢
  clear hby
  rintro _ w3 ⟨rfl, e3⟩
  have r0 := old_cell e3 r0
  have k0 := old_cell e3 k0
  have k1 := old_cell e3 k1
  have k2 := old_cell e3 k2
  have k3 := old_cell e3 k3
  have k4 := old_cell e3 k4
  have k5 := old_cell e3 k5
  have k6 := old_cell e3 k6
  have y0 := old_cell e3 y0
  have y1 := old_cell e3 y1
  have y2 := old_cell e3 y2
  have y3 := old_cell e3 y3
  have y4 := old_cell e3 y4
  have y5 := old_cell e3 y5
  have y6 := old_cell e3 y6
  have HEC := hid (HEB2.out.trans e3)
  have HXC := hid (HXB2.out.trans e3)
  clear e3 HEB HEB2 eb
  go_wp2_with fail
  refine (HT3.out _).mono ?_
  rintro _ w4 ⟨rfl, e4⟩
  have e4' : Ext w3 w4 := Ext.trans (by repeat (first | exact Ext.refl _ | refine Ext.alloc ?_ _ | assumption | refine Ext.over ?_ _ | refine Ext.drew ?_ | refine Ext.drewN ?_ _)) e4
  have r0 := old_cell e4' r0
  have k0 := old_cell e4' k0
  have k1 := old_cell e4' k1
  have k2 := old_cell e4' k2
  have k3 := old_cell e4' k3
  have k4 := old_cell e4' k4
  have k5 := old_cell e4' k5
  have k6 := old_cell e4' k6
  have y0 := old_cell e4' y0
  have y1 := old_cell e4' y1
  have y2 := old_cell e4' y2
  have y3 := old_cell e4' y3
  have y4 := old_cell e4' y4
  have y5 := old_cell e4' y5
  have y6 := old_cell e4' y6
  have HED := hid (HEC.out.trans e4')
  have HXD := hid (HXC.out.trans e4')
  clear e4 e4' HEC
  go_wp2_with fail
  refine (HT4.out _).mono ?_
  rintro _ w5 ⟨rfl, e5⟩
  have e5' : Ext w4 w5 := Ext.trans (by repeat (first | exact Ext.refl _ | refine Ext.alloc ?_ _ | assumption | refine Ext.over ?_ _ | refine Ext.drew ?_ | refine Ext.drewN ?_ _)) e5
  have r0 := old_cell e5' r0
  have k0 := old_cell e5' k0
  have k1 := old_cell e5' k1
  have k2 := old_cell e5' k2
  have k3 := old_cell e5' k3
  have k4 := old_cell e5' k4
  have k5 := old_cell e5' k5
  have k6 := old_cell e5' k6
  have y0 := old_cell e5' y0
  have y1 := old_cell e5' y1
  have y2 := old_cell e5' y2
  have y3 := old_cell e5' y3
  have y4 := old_cell e5' y4
  have y5 := old_cell e5' y5
  have y6 := old_cell e5' y6
  have HEE := hid (HED.out.trans e5')
  have HXE := hid (HXD.out.trans e5')
  clear e5 e5' HED
  go_wp2_with fail
  obtain ⟨wf, hwf⟩ : ∃ wf, wf = w5.alloc (.cells #[.int .i64 x.a, .int .i64 x.b, .int .i64 x.c, .int .i64 x.d, .int .i64 x.e, .int .i64 x.f, .int .i64 x.g] 30) := ⟨_, rfl⟩
  have ef : Ext w5 wf := by rw [hwf]; repeat (first | exact Ext.refl _ | refine Ext.alloc ?_ _ | assumption | refine Ext.over ?_ _ | refine Ext.drew ?_ | refine Ext.drewN ?_ _)
  have v0 : wf.cell? ⟨w5.heap.size, 0, none⟩ = some (.int .i64 x.a) := by rw [hwf]; go_simp
  have v1 : wf.cell? ⟨w5.heap.size, 1, none⟩ = some (.int .i64 x.b) := by rw [hwf]; go_simp
  have v2 : wf.cell? ⟨w5.heap.size, 2, none⟩ = some (.int .i64 x.c) := by rw [hwf]; go_simp
  have v3 : wf.cell? ⟨w5.heap.size, 3, none⟩ = some (.int .i64 x.d) := by rw [hwf]; go_simp
  have v4 : wf.cell? ⟨w5.heap.size, 4, none⟩ = some (.int .i64 x.e) := by rw [hwf]; go_simp
  have v5 : wf.cell? ⟨w5.heap.size, 5, none⟩ = some (.int .i64 x.f) := by rw [hwf]; go_simp
  have v6 : wf.cell? ⟨w5.heap.size, 6, none⟩ = some (.int .i64 x.g) := by rw [hwf]; go_simp
  have r0 := old_cell ef r0
  have k0 := old_cell ef k0
  have k1 := old_cell ef k1
  have k2 := old_cell ef k2
  have k3 := old_cell ef k3
  have k4 := old_cell ef k4
  have k5 := old_cell ef k5
  have k6 := old_cell ef k6
  have y0 := old_cell ef y0
  have y1 := old_cell ef y1
  have y2 := old_cell ef y2
  have y3 := old_cell ef y3
  have y4 := old_cell ef y4
  have y5 := old_cell ef y5
  have y6 := old_cell ef y6
  have HEF := hid (HEE.out.trans ef)
  have HXF := hid (HXE.out.trans ef)
  have HRF := hid (show Row wf A (L.flatMap T2.v) from HR.out.ext (HXF.out))
  refine (HFB.out _ (by first | exact HR.out.ext HXF.out | (rw [hwf] at HXF; exact HR.out.ext HXF.out))).mono ?_
  rw [← hwf]
  clear hwf
  obtain ⟨bv, hbv⟩ : ∃ bv, bv = w5.heap.size := ⟨_, rfl⟩
  rw [← hbv] at v0 v1 v2 v3 v4 v5 v6 ⊢
  clear hbv
  rintro _ w6 ⟨D, q, d, rfl, ho, e6⟩
  have hq := own_len2 ho
  have HD := hid (Row.of_own ho)
  clear ho
  have r0 := old_cell e6 r0
  have k0 := old_cell e6 k0
  have k1 := old_cell e6 k1
  have k2 := old_cell e6 k2
  have k3 := old_cell e6 k3
  have k4 := old_cell e6 k4
  have k5 := old_cell e6 k5
  have k6 := old_cell e6 k6
  have y0 := old_cell e6 y0
  have y1 := old_cell e6 y1
  have y2 := old_cell e6 y2
  have y3 := old_cell e6 y3
  have y4 := old_cell e6 y4
  have y5 := old_cell e6 y5
  have y6 := old_cell e6 y6
  have v0 := old_cell e6 v0
  have v1 := old_cell e6 v1
  have v2 := old_cell e6 v2
  have v3 := old_cell e6 v3
  have v4 := old_cell e6 v4
  have v5 := old_cell e6 v5
  have v6 := old_cell e6 v6
  have HE6 := hid (HEF.out.trans e6)
  have HX6 := hid (HXF.out.trans e6)
  subst hq
  have hfl := HFLN.out
  have HPO := hid HPOS.out
  clear e6 HEF HXF HRF HFB HT1 HT2 HT3 HT4 ef HEE HXE HFLN HPOS
  go_wp2_with fail
  go_loopw [14] (fun iv wr => ∃ (i : Nat), i ≤ F.length ∧ iv = .int .i64 ↑i ∧ Ext w6 wr) (fun iv _ => F.length - (intOf iv).toNat)
  case atStart => exact ⟨0, by omega, rfl, Ext.refl _⟩
  case round =>
    obtain ⟨i, hi, rfl, he⟩ := hrel
    have HEL := hid he
    have r0 := old_cell he r0
    have k0 := old_cell he k0
    have k1 := old_cell he k1
    have k2 := old_cell he k2
    have k3 := old_cell he k3
    have k4 := old_cell he k4
    have k5 := old_cell he k5
    have k6 := old_cell he k6
    have y0 := old_cell he y0
    have y1 := old_cell he y1
    have y2 := old_cell he y2
    have y3 := old_cell he y3
    have y4 := old_cell he y4
    have y5 := old_cell he y5
    have y6 := old_cell he y6
    have v0 := old_cell he v0
    have v1 := old_cell he v1
    have v2 := old_cell he v2
    have v3 := old_cell he v3
    have v4 := old_cell he v4
    have v5 := old_cell he v5
    have v6 := old_cell he v6
    have HRL := hid (HR.out.ext (HX6.out.trans he))
    have HDL := hid (HD.out.ext he)
    clear he
    by_cases hlt : i < F.length
    · have hit : (i : Int) < F.length := by omega
      obtain ⟨bd, off, hB, hc⟩ := HDL.out.t2 hlt
      obtain ⟨c1, c2⟩ := hc i hlt
      have hm : at2 F i ∈ F := by rw [at2_eq _ _ hlt]; exact List.getElem_mem hlt
      have H1 := hid (HFI.out _ hm)
      have H2 := hid (HSE.out _ hm)
      have H3 := hid (HIF.out _ hm)
      have H4 := hid (HIR.out _ hm)
      have hpb := HPB.out _ hm
      rw [HRP.out] at H4
      subst hB
      clear hc hm v0 v1 v2 v3 v4 v5 v6
      generalize at2 F i = p at c1 c2 H1 H2 H3 H4 hpb
      go_wp2_with fail
      (refine wp_region_calm (by kernel_rfl) (by kernel_rfl) ?_; (repeat (go_big_quiet_step (first | (go_at_call 9; exact (H1.out _ (HRL.out.ext (by repeat (first | exact Ext.refl _ | refine Ext.alloc ?_ _ | assumption | refine Ext.over ?_ _ | refine Ext.drew ?_ | refine Ext.drewN ?_ _)))).calm) | (go_at_call 10; exact (H2.out _ (HRL.out.ext (by repeat (first | exact Ext.refl _ | refine Ext.alloc ?_ _ | assumption | refine Ext.over ?_ _ | refine Ext.drew ?_ | refine Ext.drewN ?_ _)))).calm) | (go_at_call 11; exact (H3.out _).calm)))); refine wpQuiet_nil ?_; rintro w1 ⟨x1, rfl⟩)
      go_wp2_with fail
      refine wp_region_x [.q 0, .q 1, .q 2, .q 3, .q 4, .q 5, .q 6, .q 7, .q 8, .q 9, .q 10, .q 11, .q 12, .q 13, .q 14, .q 15, .q 16, .q 17, .q 18, .q 19, .q 20, .q 21, .q 22, .q 23, .q 24, .q 25, .q 26, .u 27, .u 28] (by kernel_rfl) (by kernel_rfl) (fun w7 e7 => ?_)
      have e7' : Ext wr w7 := Ext.trans (by repeat (first | exact Ext.refl _ | refine Ext.alloc ?_ _ | assumption | refine Ext.over ?_ _ | refine Ext.drew ?_ | refine Ext.drewN ?_ _)) e7
      have r0 := old_cell e7' r0
      have k0 := old_cell e7' k0
      have k1 := old_cell e7' k1
      have k2 := old_cell e7' k2
      have k3 := old_cell e7' k3
      have k4 := old_cell e7' k4
      have k5 := old_cell e7' k5
      have k6 := old_cell e7' k6
      have y0 := old_cell e7' y0
      have y1 := old_cell e7' y1
      have y2 := old_cell e7' y2
      have y3 := old_cell e7' y3
      have y4 := old_cell e7' y4
      have y5 := old_cell e7' y5
      have y6 := old_cell e7' y6
      have c1 := old_cell e7' c1
      have c2 := old_cell e7' c2
      have HEL7 := hid (HEL.out.trans e7')
      clear e7 e7' HEL
      have s1 : IntKind.i64.wrap (p.b - x.b) = p.b - x.b := IntWalk.i64_in _ (by omega)
      have s2 : IntKind.i64.wrap (x.a - (p.b - x.b)) = x.a - (p.b - x.b) := IntWalk.i64_in _ (by omega)
      have s3 : IntKind.i64.wrap (x.b + p.a) = x.b + p.a := IntWalk.i64_in _ (by omega)
      have s4 : IntKind.i64.wrap (x.b + p.a - x.a) = x.b + p.a - x.a := IntWalk.i64_in _ (by omega)
      simp only [pick, List.getElem?_cons_succ, List.getElem?_cons_zero]
      repeat (refine wpZ_q (fun K hK => ?_); go_simp; refine hK _ ?_; clear hK K)
      refine wpZ_u ?_
      refine stepH_of (fun K hK => ?_)
      go_simp
      refine hK _ _ (Below.alloc (Below.refl _ _) (Nat.le_refl _) _) ?_; clear hK K
      refine wpZ_u ?_
      refine stepH_of (fun K hK => ?_)
      go_simp
      refine hK _ _ (below_again (Nat.le_refl _) _ _) ?_; clear hK K
      refine wpZ_nil ?_
      clear s1 s2 s3 s4 c1 c2 hpb
      obtain ⟨ta, hta⟩ : ∃ ta, ta = x.a - (p.b - x.b) := ⟨_, rfl⟩
      obtain ⟨tb, htb⟩ : ∃ tb, tb = x.b + p.a - x.a := ⟨_, rfl⟩
      rw [← hta, ← htb] at H4 ⊢
      clear hta htb H1 H2 H3
      cases hpk : pok ta tb
      · go_wp2_with (go_at_call 12; refine (gives_b hpk (iPointOk_any _ _ _)).over.mono ?_; rintro e w' ⟨rfl, xw, rfl⟩)
        go_roundw
        case rel => exact ⟨i + 1, by omega, by go_num, HEL7.out.trans (by repeat (first | exact Ext.refl _ | refine Ext.alloc ?_ _ | assumption | refine Ext.over ?_ _ | refine Ext.drew ?_ | refine Ext.drewN ?_ _))⟩
        case measure => simp [intOf]; omega
      · have H5 := hid (H4.out hpk)
        go_wp2_with (first | (go_at_call 12; refine (gives_b hpk (iPointOk_any _ _ _)).over.mono ?_; rintro e w' ⟨rfl, xw, rfl⟩) | (go_at_call 11; refine (H5.out _).over.mono ?_; rintro e w' ⟨rfl, xw, rfl⟩))
        go_roundw
        case rel => exact ⟨i + 1, by omega, by go_num, HEL7.out.trans (by repeat (first | exact Ext.refl _ | refine Ext.alloc ?_ _ | assumption | refine Ext.over ?_ _ | refine Ext.drew ?_ | refine Ext.drewN ?_ _))⟩
        case measure => simp [intOf]; omega
    · obtain rfl : i = F.length := by omega
      have hkt : ¬ (F.length : Int) < F.length := by omega
      have hge : (1 : Int) ≤ F.length := by have := HPO.out; omega
      have hgd : decide ((1 : Int) ≤ F.length) = true := decide_eq_true hge
      have hne := HNE.out
      obtain ⟨ha, hb, hg⟩ := HYA.out
      rw [ha] at y0
      rw [hb] at y1
      rw [hg] at y6
      unfold T7.v at *
      have HCK2 := HCK.out
      rw [ha, hb, hg] at HCK2
      have HCK3 := hid HCK2
      have HN2 := hid (show ¬ (y.c = x.c ∧ y.d = x.d ∧ y.e = x.e ∧ y.f = x.f) from fun h => hne (by cases y; cases x; simp only [T7.mk.injEq] at *; exact ⟨ha, hb, h.1, h.2.1, h.2.2.1, h.2.2.2, hg⟩))
      clear hne ha hb hg HCK HCK2 HIR
      generalize y.c = yc at *
      generalize y.d = yd at *
      generalize y.e = ye at *
      generalize y.f = yf at *
      generalize x.a = xa at *
      generalize x.b = xb at *
      generalize x.c = xc at *
      generalize x.d = xd at *
      generalize x.e = xe at *
      generalize x.f = xf at *
      generalize x.g = xg at *
      by_cases h1 : yc = xc
      · by_cases h2 : yd = xd
        · by_cases h3 : ye = xe
          · have h4 : ¬ yf = xf := fun h => HN2.out ⟨h1, h2, h3, h⟩
            have e1 : (yc == xc) = true := by simpa using h1
            have e2 : (yd == xd) = true := by simpa using h2
            have e3 : (ye == xe) = true := by simpa using h3
            have e4 : (yf == xf) = false := by simpa using h4
            replace h1 := hid h1; replace h2 := hid h2; replace h3 := hid h3; replace h4 := hid h4
            go_wp2_with (first | (go_at_call 11; refine (HIS.out _).over.mono ?_; rintro e w' ⟨rfl, xw, rfl⟩) | (go_at_call 13; refine (HCK3.out _).over.mono ?_; rintro e w' ⟨rfl, xw, rfl⟩))
            go_ret
            exact ⟨rfl, HE6.out.trans (HEL.out.trans (by repeat (first | exact Ext.refl _ | refine Ext.alloc ?_ _ | assumption | refine Ext.over ?_ _ | refine Ext.drew ?_ | refine Ext.drewN ?_ _)))⟩
          · have e1 : (yc == xc) = true := by simpa using h1
            have e2 : (yd == xd) = true := by simpa using h2
            have e3 : (ye == xe) = false := by simpa using h3
            replace h1 := hid h1; replace h2 := hid h2; replace h3 := hid h3
            go_wp2_with (first | (go_at_call 11; refine (HIS.out _).over.mono ?_; rintro e w' ⟨rfl, xw, rfl⟩) | (go_at_call 13; refine (HCK3.out _).over.mono ?_; rintro e w' ⟨rfl, xw, rfl⟩))
            go_ret
            exact ⟨rfl, HE6.out.trans (HEL.out.trans (by repeat (first | exact Ext.refl _ | refine Ext.alloc ?_ _ | assumption | refine Ext.over ?_ _ | refine Ext.drew ?_ | refine Ext.drewN ?_ _)))⟩
        · have e1 : (yc == xc) = true := by simpa using h1
          have e2 : (yd == xd) = false := by simpa using h2
          replace h1 := hid h1; replace h2 := hid h2
          go_wp2_with (first | (go_at_call 11; refine (HIS.out _).over.mono ?_; rintro e w' ⟨rfl, xw, rfl⟩) | (go_at_call 13; refine (HCK3.out _).over.mono ?_; rintro e w' ⟨rfl, xw, rfl⟩))
          go_ret
          exact ⟨rfl, HE6.out.trans (HEL.out.trans (by repeat (first | exact Ext.refl _ | refine Ext.alloc ?_ _ | assumption | refine Ext.over ?_ _ | refine Ext.drew ?_ | refine Ext.drewN ?_ _)))⟩
      · have e1 : (yc == xc) = false := by simpa using h1
        replace h1 := hid h1
        go_wp2_with (first | (go_at_call 11; refine (HIS.out _).over.mono ?_; rintro e w' ⟨rfl, xw, rfl⟩) | (go_at_call 13; refine (HCK3.out _).over.mono ?_; rintro e w' ⟨rfl, xw, rfl⟩))
        go_ret
        exact ⟨rfl, HE6.out.trans (HEL.out.trans (by repeat (first | exact Ext.refl _ | refine Ext.alloc ?_ _ | assumption | refine Ext.over ?_ _ | refine Ext.drew ?_ | refine Ext.drewN ?_ _)))⟩
end fnCameras
end Go.Proofs.Ytelmpiaaaffmlaa
