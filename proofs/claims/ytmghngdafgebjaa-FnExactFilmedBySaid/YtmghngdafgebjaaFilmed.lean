/- Walks: FilmedBy, both. Conditions: at most 1048577 corners. -/
import Derived.Test.YtmghngdafgebjaaBlind
namespace Go.Proofs.Ytmghngdafgebjaa
open Go.RowKit
set_option linter.unusedVariables false

def filmedL (L : List T2) (x : T7) : List T2 := if camOk x && isIn L (camAt x) then (floorL L).filter (filmR L x) else []
theorem isIn_floor {L : List T2} (hr : roomS L = true) {p : T2} (hp : onFloor L p) : isIn L p = true := by
  rw [isIn_val, hr, hp.1, beq_eq_false_iff_ne.2 hp.2]; rfl
theorem film_in {L : List T2} {x : T7} {p : T2} (hr : roomS L = true) (h : isIn L (camAt x) = true) (hp : onFloor L p) : filmR L x p = (inFld x p.a p.b && seesS L (camAt x) p) := by
  unfold filmR seeR
  rw [h, isIn_floor hr hp]
  simp
set_option maxRecDepth 100000 in
set_option maxHeartbeats 1600000 in
theorem iFilmed_any (A : Option Addr) (n c : Nat) (L : List T2) (x : T7) (w : World) (hl : Row w A (L.flatMap T2.v)) (hn : L.length = n) (hx : n ≤ 1048577) :
    Calls Try.prog 23 #[.agg #[.slice A n c], camV x] w fun en w' => ∃ A' q c', en = .returned (.slice A' q c') ∧ w'.ownsRow w.heap.size 35 2 (.slice A' q c') q ((filmedL L x).flatMap T2.v) ∧ Ext w w' := by
  have HL := hid hl
  clear hl
  have H1 := hid (fun w' => iCameraOk_any x w')
  have H2 := hid (fun w' (h : Row w' A (L.flatMap T2.v)) => iIsIn_any A n c L (camAt x) w' h hn hx)
  unfold ptV camAt camV at *
  cases h1 : camOk x
  · have HV := hid (show filmedL L x = [] by unfold filmedL; rw [h1]; rfl)
    go_enter Try.func23, Try.ntmps23
    go_wp2_with (go_at_call 48; refine (gives_b h1 (H1.out _)).over.mono ?_; rintro e w' ⟨rfl, xw, rfl⟩)
    refine bodyPost_ret (v := .slice none 0 0) (by first | rfl | (simp [results, Try.results23, go_sem]; done)) rfl ?_
    exact ⟨none, 0, 0, rfl, by rw [HV.out]; exact World.ownsRow_nil _ _ _ _, by repeat (first | exact Ext.refl _ | refine Ext.alloc ?_ _ | assumption | refine Ext.over ?_ _ | refine Ext.drew ?_ | refine Ext.drewN ?_ _)⟩
  cases h2 : isIn L ⟨x.a, x.b⟩
  · have HV := hid (show filmedL L x = [] by unfold filmedL camAt; rw [h2]; simp)
    go_enter Try.func23, Try.ntmps23
    go_wp2_with (first | (go_at_call 48; refine (gives_b h1 (H1.out _)).over.mono ?_; rintro e w' ⟨rfl, xw, rfl⟩) | (go_at_call 49; refine (gives_b h2 (H2.out _ (HL.out.ext (by repeat (first | exact Ext.refl _ | refine Ext.alloc ?_ _ | assumption | refine Ext.over ?_ _ | refine Ext.drew ?_ | refine Ext.drewN ?_ _))))).over.mono ?_; rintro e w' ⟨rfl, xw, rfl⟩))
    refine bodyPost_ret (v := .slice none 0 0) (by first | rfl | (simp [results, Try.results23, go_sem]; done)) rfl ?_
    exact ⟨none, 0, 0, rfl, by rw [HV.out]; exact World.ownsRow_nil _ _ _ _, by repeat (first | exact Ext.refl _ | refine Ext.alloc ?_ _ | assumption | refine Ext.over ?_ _ | refine Ext.drew ?_ | refine Ext.drewN ?_ _)⟩
  have hro := (isIn_room h2).1
  have hpk := (isIn_room h2).2
  have HV := hid (show filmedL L x = takeF (floorL L) (filmR L x) (floorL L).length by unfold filmedL camAt; rw [h1, h2, takeF_full]; rfl)
  have HFO := hid (fun k hk => floor_at hro (k := k) hk)
  have hfl := floor_len hro
  have HFM := hid (fun p hp w' (h : Row w' A (L.flatMap T2.v)) => films_any A n c L x p w' h hn hro hp)
  unfold ptV camV at HFM
  go_enter Try.func23, Try.ntmps23
  go_wp2_with fail
  refine (gives_b h1 (H1.out _)).mono ?_
  rintro _ w1 ⟨rfl, e1⟩
  have b0 : w1.cell? ⟨w.heap.size, 0, none⟩ = some (.slice A n c) := old_cell e1 (by go_simp)
  have k0 : w1.cell? ⟨w.heap.size + 1, 0, none⟩ = some (.int .i64 x.a) := old_cell e1 (by go_simp)
  have k1 : w1.cell? ⟨w.heap.size + 1, 1, none⟩ = some (.int .i64 x.b) := old_cell e1 (by go_simp)
  have k2 : w1.cell? ⟨w.heap.size + 1, 2, none⟩ = some (.int .i64 x.c) := old_cell e1 (by go_simp)
  have k3 : w1.cell? ⟨w.heap.size + 1, 3, none⟩ = some (.int .i64 x.d) := old_cell e1 (by go_simp)
  have k4 : w1.cell? ⟨w.heap.size + 1, 4, none⟩ = some (.int .i64 x.e) := old_cell e1 (by go_simp)
  have k5 : w1.cell? ⟨w.heap.size + 1, 5, none⟩ = some (.int .i64 x.f) := old_cell e1 (by go_simp)
  have k6 : w1.cell? ⟨w.heap.size + 1, 6, none⟩ = some (.int .i64 x.g) := old_cell e1 (by go_simp)
  have E1 := hid (Ext.trans (show Ext w _ by repeat (first | exact Ext.refl _ | refine Ext.alloc ?_ _ | assumption | refine Ext.over ?_ _ | refine Ext.drew ?_ | refine Ext.drewN ?_ _)) e1)
  have hs1 : w.heap.size + 2 ≤ w1.heap.size := by have := e1.size; simp at this; omega
  clear e1
  go_wp2_with fail
  refine (gives_b h2 (H2.out _ (HL.out.ext (E1.out.trans (by repeat (first | exact Ext.refl _ | refine Ext.alloc ?_ _ | assumption | refine Ext.over ?_ _ | refine Ext.drew ?_ | refine Ext.drewN ?_ _)))))).mono ?_
  rintro _ w2 ⟨rfl, e2⟩
  have e12 : Ext w1 w2 := e2
  have b0 := old_cell e12 b0
  have k0 := old_cell e12 k0
  have k1 := old_cell e12 k1
  have k2 := old_cell e12 k2
  have k3 := old_cell e12 k3
  have k4 := old_cell e12 k4
  have k5 := old_cell e12 k5
  have k6 := old_cell e12 k6
  have E2 := hid (E1.out.trans e12)
  have hs2 := e12.size
  clear e2 e12 E1
  go_wp2_with fail
  refine (floor_any A n c L _ (HL.out.ext (E2.out.trans (by repeat (first | exact Ext.refl _ | refine Ext.alloc ?_ _ | assumption | refine Ext.over ?_ _ | refine Ext.drew ?_ | refine Ext.drewN ?_ _)))) hn hro).mono ?_
  rintro _ w3 ⟨D, q, c1, rfl, ho, he⟩
  have hq := own_len2 ho
  have hown := own_ext (own_empty w2 w2.heap.size w.heap.size rfl E2.out.size 35 2) he
  have e23 : Ext w2 w3 := Ext.trans (by repeat (first | exact Ext.refl _ | refine Ext.alloc ?_ _ | assumption | refine Ext.over ?_ _ | refine Ext.drew ?_ | refine Ext.drewN ?_ _)) he
  have hg3 : w2.heap.size < w3.heap.size := by have := he.size; simp at this; omega
  have hgb : w2.heap.size < (w2.alloc (.cells #[] 35)).heap.size := by simp
  obtain ⟨g, hg⟩ : ∃ g, g = w2.heap.size := ⟨_, rfl⟩
  have hlow : w.heap.size + 2 ≤ g := by omega
  have HOW := hid hown
  have b0 := old_cell e23 b0
  have k0 := old_cell e23 k0
  have k1 := old_cell e23 k1
  have k2 := old_cell e23 k2
  have k3 := old_cell e23 k3
  have k4 := old_cell e23 k4
  have k5 := old_cell e23 k5
  have k6 := old_cell e23 k6
  have E3 := hid (E2.out.trans e23)
  have HO := hid ho
  have hsz := E3.out.size
  rw [← hg] at hg3 HOW hgb ⊢
  generalize (w2.alloc (.cells #[] 35)).heap.size = gb at HO hgb
  generalize hF : floorL L = F at *
  subst hq
  clear ho he hown e23 hg E2 hs1 hs2
  go_wp2_with fail
  go_loopw [5, 22] (fun ov kv wr => ∃ (k : Nat) (A' : Option Addr) (m c' : Nat), k ≤ F.length ∧ kv = .int .i64 ↑k ∧ ov = .slice A' m c' ∧ wr.ownsRow w.heap.size 35 2 (.slice A' m c') m ((takeF F (filmR L x) k).flatMap T2.v) ∧ OutAt w3 wr g A') (fun _ kv _ => F.length - (intOf kv).toNat)
  case atStart => exact ⟨0, _, _, _, by omega, rfl, rfl, HOW.out, OutAt.refl _ _⟩
  case round =>
    clear HOW
    obtain ⟨k, A', m, c', hk, rfl, rfl, hown, hout⟩ := hrel
    have hm := own_len2 hown
    have hml := takeF_len F (filmR L x) k
    have HOW := hid hown
    have HT := hid hout
    have r0 := (hout.cell (p := ⟨w.heap.size, 0, none⟩) (by show w.heap.size < w3.heap.size; omega) (by show w.heap.size ≠ g; omega)).trans b0
    have r1 := (hout.cell (p := ⟨w.heap.size + 1, 0, none⟩) (by show w.heap.size + 1 < w3.heap.size; omega) (by show w.heap.size + 1 ≠ g; omega)).trans k0
    have r2 := (hout.cell (p := ⟨w.heap.size + 1, 1, none⟩) (by show w.heap.size + 1 < w3.heap.size; omega) (by show w.heap.size + 1 ≠ g; omega)).trans k1
    have r3 := (hout.cell (p := ⟨w.heap.size + 1, 2, none⟩) (by show w.heap.size + 1 < w3.heap.size; omega) (by show w.heap.size + 1 ≠ g; omega)).trans k2
    have r4 := (hout.cell (p := ⟨w.heap.size + 1, 3, none⟩) (by show w.heap.size + 1 < w3.heap.size; omega) (by show w.heap.size + 1 ≠ g; omega)).trans k3
    have r5 := (hout.cell (p := ⟨w.heap.size + 1, 4, none⟩) (by show w.heap.size + 1 < w3.heap.size; omega) (by show w.heap.size + 1 ≠ g; omega)).trans k4
    have r6 := (hout.cell (p := ⟨w.heap.size + 1, 5, none⟩) (by show w.heap.size + 1 < w3.heap.size; omega) (by show w.heap.size + 1 ≠ g; omega)).trans k5
    have r7 := (hout.cell (p := ⟨w.heap.size + 1, 6, none⟩) (by show w.heap.size + 1 < w3.heap.size; omega) (by show w.heap.size + 1 ≠ g; omega)).trans k6
    have HX := hid (hout.out E3.out (by omega))
    have hm7 : m ≤ 7000 := by omega
    clear hown hout hm hml
    by_cases hlt : k < F.length
    · obtain ⟨blk, off, hB, hc⟩ := (Row.of_own (HT.out.kept HO.out hgb)).t2 hlt
      obtain ⟨c1, c2⟩ := hc k hlt
      have hkt : (k : Int) < F.length := by omega
      have HPO := hid (HFO.out k hlt)
      have HYES := hid (fun h => takeF_yes (q := filmR L x) hlt h)
      have HNO := hid (fun h => takeF_no (q := filmR L x) hlt h)
      subst hB
      generalize at2 F k = p at c1 c2 HPO HYES HNO
      clear hc
      have HM := hid (HFM.out p HPO.out)
      cases hf : filmR L x p
      · have HN := hid (HNO.out hf)
        go_wp2_with (go_at_call 51; refine (gives_b hf (HM.out _ (HL.out.ext (HX.out.trans (by repeat (first | exact Ext.refl _ | refine Ext.alloc ?_ _ | assumption | refine Ext.over ?_ _ | refine Ext.drew ?_ | refine Ext.drewN ?_ _)))))).over.mono ?_; rintro e w' ⟨rfl, xw, rfl⟩)
        go_roundw
        case rel => exact ⟨k + 1, A', m, c', by omega, by go_num, rfl, by rw [HN.out]; exact own_ext HOW.out (by repeat (first | exact Ext.refl _ | refine Ext.alloc ?_ _ | assumption | refine Ext.over ?_ _ | refine Ext.drew ?_ | refine Ext.drewN ?_ _)), HT.out.ext (by repeat (first | exact Ext.refl _ | refine Ext.alloc ?_ _ | assumption | refine Ext.over ?_ _ | refine Ext.drew ?_ | refine Ext.drewN ?_ _))⟩
        case measure => simp [intOf]; omega
      · have HN := hid (HYES.out hf)
        have HO2 := hid (show (takeF F (filmR L x) (k + 1)).flatMap T2.v = (takeF F (filmR L x) k).flatMap T2.v ++ [.int .i64 p.a, .int .i64 p.b] by rw [HN.out, List.flatMap_append]; rfl)
        have hown := HOW.out
        generalize (takeF F (filmR L x) k).flatMap T2.v = cs at hown HO2
        have HO3 := hid hown
        clear hown HOW
        go_wp2_with (first | (go_at_call 51; refine (gives_b hf (HM.out _ (HL.out.ext (HX.out.trans (by repeat (first | exact Ext.refl _ | refine Ext.alloc ?_ _ | assumption | refine Ext.over ?_ _ | refine Ext.drew ?_ | refine Ext.drewN ?_ _)))))).over.mono ?_; rintro e w' ⟨rfl, xw, rfl⟩) | (at_builtin; refine wpList_pushO w3 g rfl (.tmp 30) (.tmp 32) 31 rfl 35 Try.underlying31 info_Point rfl (by decide) w.heap.size _ m c' cs rfl wr HO3.out HT.out (by repeat (first | exact Ext.refl _ | refine Ext.alloc ?_ _ | assumption | refine Ext.over ?_ _ | refine Ext.drew ?_ | refine Ext.drewN ?_ _)) hsz _ 1 1 [.int .i64 p.a, .int .i64 p.b] rfl rfl (lit_cells _ _ (by first | (simp; done) | simp [ovr_size]) _ _) (by intro u hu; simp at hu; rcases hu with rfl | rfl <;> rfl) (by decide) (by omega) (by decide) ?_))
        intro A5 c5 w5 hown5 hout5
        have HO5 := hid (show w5.ownsRow w.heap.size 35 2 (.slice A5 (m + 1) c5) (m + 1) ((takeF F (filmR L x) (k + 1)).flatMap T2.v) by rw [HO2.out]; exact hown5)
        have HT5 := hid hout5
        clear hown5 hout5
        go_wp2_with fail
        go_roundw
        case rel => exact ⟨k + 1, A5, m + 1, c5, by omega, by go_num, rfl, HO5.out, HT5.out⟩
        case measure => simp [intOf]; omega
    · obtain rfl : k = F.length := by omega
      go_wp2_with fail
      refine bodyPost_ret (v := .slice A' m c') (by first | rfl | (simp [results, Try.results23, go_sem]; done)) rfl ?_
      exact ⟨A', m, c', rfl, by rw [HV.out]; exact HOW.out, HX.out⟩
set_option maxRecDepth 100000 in
set_option maxHeartbeats 1600000 in
theorem sFilmed_any (A : Option Addr) (n c : Nat) (L : List T2) (x : T7) (w : World) (hl : Row w A (L.flatMap T2.v)) (hn : L.length = n) (hx : n ≤ 1048577) :
    Calls Try.prog 22 #[.agg #[.slice A n c], camV x] w fun en w' => ∃ A' q c', en = .returned (.slice A' q c') ∧ w'.ownsRow w.heap.size 35 2 (.slice A' q c') q ((filmedL L x).flatMap T2.v) ∧ Ext w w' := by
  have HL := hid hl
  clear hl
  have H1 := hid (fun w' => sCameraOk_any x w')
  have H2 := hid (fun w' (h : Row w' A (L.flatMap T2.v)) => sIsIn_any A n c L (camAt x) w' h hn hx)
  unfold ptV camAt camV at *
  cases h1 : camOk x
  · have HV := hid (show filmedL L x = [] by unfold filmedL; rw [h1]; rfl)
    go_enter Try.func22, Try.ntmps22
    go_wp2_with (go_at_call 44; refine (gives_b h1 (H1.out _)).over.mono ?_; rintro e w' ⟨rfl, xw, rfl⟩)
    refine bodyPost_ret (v := .slice (some ⟨w.heap.size + 1 + 1, 0, none⟩) 0 0) (by first | rfl | (simp [results, Try.results22, go_sem]; done)) rfl ?_
    refine ⟨_, _, _, rfl, ?_, by repeat (first | exact Ext.refl _ | refine Ext.alloc ?_ _ | assumption | refine Ext.over ?_ _ | refine Ext.drew ?_ | refine Ext.drewN ?_ _)⟩
    rw [HV.out]
    exact own_ext (own_empty ((w.alloc (.cells #[.slice A n c] 33)).alloc (.cells #[.int .i64 x.a, .int .i64 x.b, .int .i64 x.c, .int .i64 x.d, .int .i64 x.e, .int .i64 x.f, .int .i64 x.g] 37)) (w.heap.size + 1 + 1) w.heap.size (by simp) (by simp; omega) 35 2) (by repeat (first | exact Ext.refl _ | refine Ext.alloc ?_ _ | assumption | refine Ext.over ?_ _ | refine Ext.drew ?_ | refine Ext.drewN ?_ _))
  cases h2 : isIn L ⟨x.a, x.b⟩
  · have HV := hid (show filmedL L x = [] by unfold filmedL camAt; rw [h2]; simp)
    go_enter Try.func22, Try.ntmps22
    go_wp2_with (first | (go_at_call 44; refine (gives_b h1 (H1.out _)).over.mono ?_; rintro e w' ⟨rfl, xw, rfl⟩) | (go_at_call 45; refine (gives_b h2 (H2.out _ (HL.out.ext (by repeat (first | exact Ext.refl _ | refine Ext.alloc ?_ _ | assumption | refine Ext.over ?_ _ | refine Ext.drew ?_ | refine Ext.drewN ?_ _))))).over.mono ?_; rintro e w' ⟨rfl, xw, rfl⟩))
    refine bodyPost_ret (v := .slice (some ⟨w.heap.size + 1 + 1, 0, none⟩) 0 0) (by first | rfl | (simp [results, Try.results22, go_sem]; done)) rfl ?_
    refine ⟨_, _, _, rfl, ?_, by repeat (first | exact Ext.refl _ | refine Ext.alloc ?_ _ | assumption | refine Ext.over ?_ _ | refine Ext.drew ?_ | refine Ext.drewN ?_ _)⟩
    rw [HV.out]
    exact own_ext (own_empty ((w.alloc (.cells #[.slice A n c] 33)).alloc (.cells #[.int .i64 x.a, .int .i64 x.b, .int .i64 x.c, .int .i64 x.d, .int .i64 x.e, .int .i64 x.f, .int .i64 x.g] 37)) (w.heap.size + 1 + 1) w.heap.size (by simp) (by simp; omega) 35 2) (by repeat (first | exact Ext.refl _ | refine Ext.alloc ?_ _ | assumption | refine Ext.over ?_ _ | refine Ext.drew ?_ | refine Ext.drewN ?_ _))
  have hro := (isIn_room h2).1
  have hpk := (isIn_room h2).2
  have HV := hid (show filmedL L x = takeF (floorL L) (filmR L x) (floorL L).length by unfold filmedL camAt; rw [h1, h2, takeF_full]; rfl)
  have HFO := hid (fun k hk => floor_at hro (k := k) hk)
  have hfl := floor_len hro
  have HFI := hid (fun p (hp : onFloor L p) => film_in (x := x) hro h2 hp)
  have HFR := hid (floorR_yes hro)
  have H4 := hid (fun p w' (h : Row w' A (L.flatMap T2.v)) => l08Sees_any A n c L ⟨x.a, x.b⟩ p w' h hn hro)
  have H5 := hid (fun (p : T2) w' => sInField_any x p.a p.b w')
  unfold ptV camAt camV at *
  go_enter Try.func22, Try.ntmps22
  go_wp2_with fail
  refine (gives_b h1 (H1.out _)).mono ?_
  rintro _ w1 ⟨rfl, e1⟩
  have b0 : w1.cell? ⟨w.heap.size, 0, none⟩ = some (.slice A n c) := old_cell e1 (by go_simp)
  have k0 : w1.cell? ⟨w.heap.size + 1, 0, none⟩ = some (.int .i64 x.a) := old_cell e1 (by go_simp)
  have k1 : w1.cell? ⟨w.heap.size + 1, 1, none⟩ = some (.int .i64 x.b) := old_cell e1 (by go_simp)
  have k2 : w1.cell? ⟨w.heap.size + 1, 2, none⟩ = some (.int .i64 x.c) := old_cell e1 (by go_simp)
  have k3 : w1.cell? ⟨w.heap.size + 1, 3, none⟩ = some (.int .i64 x.d) := old_cell e1 (by go_simp)
  have k4 : w1.cell? ⟨w.heap.size + 1, 4, none⟩ = some (.int .i64 x.e) := old_cell e1 (by go_simp)
  have k5 : w1.cell? ⟨w.heap.size + 1, 5, none⟩ = some (.int .i64 x.f) := old_cell e1 (by go_simp)
  have k6 : w1.cell? ⟨w.heap.size + 1, 6, none⟩ = some (.int .i64 x.g) := old_cell e1 (by go_simp)
  have E1 := hid (Ext.trans (show Ext w _ by repeat (first | exact Ext.refl _ | refine Ext.alloc ?_ _ | assumption | refine Ext.over ?_ _ | refine Ext.drew ?_ | refine Ext.drewN ?_ _)) e1)
  have hs1 : w.heap.size + 2 ≤ w1.heap.size := by have := e1.size; simp at this; omega
  have hown := own_ext (own_empty ((w.alloc (.cells #[.slice A n c] 33)).alloc (.cells #[.int .i64 x.a, .int .i64 x.b, .int .i64 x.c, .int .i64 x.d, .int .i64 x.e, .int .i64 x.f, .int .i64 x.g] 37)) (w.heap.size + 1 + 1) w.heap.size (by simp) (by simp; omega) 35 2) (show Ext _ w1 from e1)
  have hs1 : w.heap.size + 2 < w1.heap.size := by have := e1.size; simp at this; omega
  have HOW := hid hown
  clear hown
  clear e1
  go_wp2_with fail
  refine (gives_b h2 (H2.out _ (HL.out.ext (E1.out.trans (by repeat (first | exact Ext.refl _ | refine Ext.alloc ?_ _ | assumption | refine Ext.over ?_ _ | refine Ext.drew ?_ | refine Ext.drewN ?_ _)))))).mono ?_
  rintro _ w2 ⟨rfl, e2⟩
  have e12 : Ext w1 w2 := e2
  have b0 := old_cell e12 b0
  have k0 := old_cell e12 k0
  have k1 := old_cell e12 k1
  have k2 := old_cell e12 k2
  have k3 := old_cell e12 k3
  have k4 := old_cell e12 k4
  have k5 := old_cell e12 k5
  have k6 := old_cell e12 k6
  have E2 := hid (E1.out.trans e12)
  have hs2 := e12.size
  have HOW2 := hid (own_ext HOW.out e12)
  clear e2 e12 E1 HOW
  go_wp2_with fail
  refine (sFloor_any A n c L _ (HL.out.ext (E2.out.trans (by repeat (first | exact Ext.refl _ | refine Ext.alloc ?_ _ | assumption | refine Ext.over ?_ _ | refine Ext.drew ?_ | refine Ext.drewN ?_ _)))) hn hx).mono ?_
  rintro _ w3 ⟨D, q, c1, rfl, ho, he⟩
  rw [HFR.out] at ho
  have hq := own_len2 ho
  have e23 : Ext w2 w3 := he
  have hown := own_ext HOW2.out e23
  have hg3' := e23.size
  obtain ⟨g, hg⟩ : ∃ g, g = w.heap.size + 1 + 1 := ⟨_, rfl⟩
  have hg3 : w.heap.size + 1 + 1 < w3.heap.size := by omega
  have hgb : w.heap.size + 1 + 1 < w2.heap.size := by omega
  have hlow : w.heap.size + 2 ≤ g := by omega
  have HOW := hid hown
  clear HOW2
  have b0 := old_cell e23 b0
  have k0 := old_cell e23 k0
  have k1 := old_cell e23 k1
  have k2 := old_cell e23 k2
  have k3 := old_cell e23 k3
  have k4 := old_cell e23 k4
  have k5 := old_cell e23 k5
  have k6 := old_cell e23 k6
  have E3 := hid (E2.out.trans e23)
  have HO := hid ho
  have hsz := E3.out.size
  rw [← hg] at hg3 HOW hgb ⊢
  generalize w2.heap.size = gb at HO hgb
  generalize hF : floorL L = F at *
  subst hq
  clear ho he hown e23 hg E2 hs1 hs2 hg3'
  go_wp2_with fail
  go_loopw [5, 7] (fun ov kv wr => ∃ (k : Nat) (A' : Option Addr) (m c' : Nat), k ≤ F.length ∧ kv = .int .i64 ↑k ∧ ov = .slice A' m c' ∧ wr.ownsRow w.heap.size 35 2 (.slice A' m c') m ((takeF F (filmR L x) k).flatMap T2.v) ∧ OutAt w3 wr g A') (fun _ kv _ => F.length - (intOf kv).toNat)
  case atStart => exact ⟨0, _, _, _, by omega, rfl, rfl, HOW.out, OutAt.refl _ _⟩
  case round =>
    clear HOW
    obtain ⟨k, A', m, c', hk, rfl, rfl, hown, hout⟩ := hrel
    have hm := own_len2 hown
    have hml := takeF_len F (filmR L x) k
    have HOW := hid hown
    have HT := hid hout
    have r0 := (hout.cell (p := ⟨w.heap.size, 0, none⟩) (by show w.heap.size < w3.heap.size; omega) (by show w.heap.size ≠ g; omega)).trans b0
    have r1 := (hout.cell (p := ⟨w.heap.size + 1, 0, none⟩) (by show w.heap.size + 1 < w3.heap.size; omega) (by show w.heap.size + 1 ≠ g; omega)).trans k0
    have r2 := (hout.cell (p := ⟨w.heap.size + 1, 1, none⟩) (by show w.heap.size + 1 < w3.heap.size; omega) (by show w.heap.size + 1 ≠ g; omega)).trans k1
    have r3 := (hout.cell (p := ⟨w.heap.size + 1, 2, none⟩) (by show w.heap.size + 1 < w3.heap.size; omega) (by show w.heap.size + 1 ≠ g; omega)).trans k2
    have r4 := (hout.cell (p := ⟨w.heap.size + 1, 3, none⟩) (by show w.heap.size + 1 < w3.heap.size; omega) (by show w.heap.size + 1 ≠ g; omega)).trans k3
    have r5 := (hout.cell (p := ⟨w.heap.size + 1, 4, none⟩) (by show w.heap.size + 1 < w3.heap.size; omega) (by show w.heap.size + 1 ≠ g; omega)).trans k4
    have r6 := (hout.cell (p := ⟨w.heap.size + 1, 5, none⟩) (by show w.heap.size + 1 < w3.heap.size; omega) (by show w.heap.size + 1 ≠ g; omega)).trans k5
    have r7 := (hout.cell (p := ⟨w.heap.size + 1, 6, none⟩) (by show w.heap.size + 1 < w3.heap.size; omega) (by show w.heap.size + 1 ≠ g; omega)).trans k6
    have HX := hid (hout.out E3.out (by omega))
    have hm7 : m ≤ 7000 := by omega
    clear hown hout hm hml
    by_cases hlt : k < F.length
    · obtain ⟨blk, off, hB, hc⟩ := (Row.of_own (HT.out.kept HO.out hgb)).t2 hlt
      obtain ⟨c1, c2⟩ := hc k hlt
      have hkt : (k : Int) < F.length := by omega
      have HPO := hid (HFO.out k hlt)
      have HYES := hid (fun h => takeF_yes (q := filmR L x) hlt h)
      have HNO := hid (fun h => takeF_no (q := filmR L x) hlt h)
      subst hB
      generalize at2 F k = p at c1 c2 HPO HYES HNO
      clear hc
      have HV2 := hid (HFI.out p HPO.out)
      have HS := hid (H4.out p)
      cases h6 : inFld x p.a p.b
      · have HN := hid (HNO.out (by rw [HV2.out, h6]; rfl))
        go_wp2_with fail
        (refine wp_region_calm (by kernel_rfl) (by kernel_rfl) ?_; (repeat (go_big_quiet_step ((go_at_call 38; exact (gives_b h6 (H5.out _ _)).calm)))); refine wpQuiet_nil ?_; rintro w1 ⟨x1, rfl⟩)
        go_wp2_with fail
        go_roundw
        case rel => exact ⟨k + 1, A', m, c', by omega, by go_num, rfl, by rw [HN.out]; exact own_ext HOW.out (by repeat (first | exact Ext.refl _ | refine Ext.alloc ?_ _ | assumption | refine Ext.over ?_ _ | refine Ext.drew ?_ | refine Ext.drewN ?_ _)), HT.out.ext (by repeat (first | exact Ext.refl _ | refine Ext.alloc ?_ _ | assumption | refine Ext.over ?_ _ | refine Ext.drew ?_ | refine Ext.drewN ?_ _))⟩
        case measure => simp [intOf]; omega
      cases h7 : seesS L ⟨x.a, x.b⟩ p
      · have HN := hid (HNO.out (by rw [HV2.out, h6, h7]; rfl))
        go_wp2_with fail
        (refine wp_region_calm (by kernel_rfl) (by kernel_rfl) ?_; (repeat (go_big_quiet_step (first | (go_at_call 38; exact (gives_b h6 (H5.out _ _)).calm) | (go_at_call 47; exact (gives_b h7 (HS.out _ (HL.out.ext (HX.out.trans (by repeat (first | exact Ext.refl _ | refine Ext.alloc ?_ _ | assumption | refine Ext.over ?_ _ | refine Ext.drew ?_ | refine Ext.drewN ?_ _)))))).calm)))); refine wpQuiet_nil ?_; rintro w1 ⟨x1, rfl⟩)
        go_wp2_with fail
        go_roundw
        case rel => exact ⟨k + 1, A', m, c', by omega, by go_num, rfl, by rw [HN.out]; exact own_ext HOW.out (by repeat (first | exact Ext.refl _ | refine Ext.alloc ?_ _ | assumption | refine Ext.over ?_ _ | refine Ext.drew ?_ | refine Ext.drewN ?_ _)), HT.out.ext (by repeat (first | exact Ext.refl _ | refine Ext.alloc ?_ _ | assumption | refine Ext.over ?_ _ | refine Ext.drew ?_ | refine Ext.drewN ?_ _))⟩
        case measure => simp [intOf]; omega
      · have HN := hid (HYES.out (by rw [HV2.out, h6, h7]; rfl))
        have HO2 := hid (show (takeF F (filmR L x) (k + 1)).flatMap T2.v = (takeF F (filmR L x) k).flatMap T2.v ++ [.int .i64 p.a, .int .i64 p.b] by rw [HN.out, List.flatMap_append]; rfl)
        have hown := HOW.out
        generalize (takeF F (filmR L x) k).flatMap T2.v = cs at hown HO2
        have HO3 := hid hown
        clear hown HOW
        go_wp2_with fail
        (refine wp_region_calm (by kernel_rfl) (by kernel_rfl) ?_; (repeat (go_big_quiet_step (first | (go_at_call 38; exact (gives_b h6 (H5.out _ _)).calm) | (go_at_call 47; exact (gives_b h7 (HS.out _ (HL.out.ext (HX.out.trans (by repeat (first | exact Ext.refl _ | refine Ext.alloc ?_ _ | assumption | refine Ext.over ?_ _ | refine Ext.drew ?_ | refine Ext.drewN ?_ _)))))).calm)))); refine wpQuiet_nil ?_; rintro w1 ⟨x1, rfl⟩)
        go_wp2_with (at_builtin; refine wpList_pushO w3 g rfl (.tmp 45) (.tmp 50) 31 rfl 35 Try.underlying31 info_Point rfl (by decide) w.heap.size _ m c' cs rfl wr HO3.out HT.out (by repeat (first | exact Ext.refl _ | refine Ext.alloc ?_ _ | assumption | refine Ext.over ?_ _ | refine Ext.drew ?_ | refine Ext.drewN ?_ _)) hsz _ 1 1 [.int .i64 p.a, .int .i64 p.b] rfl rfl (lit_cells _ _ (by first | (simp; done) | simp [ovr_size]) _ _) (by intro u hu; simp at hu; rcases hu with rfl | rfl <;> rfl) (by decide) (by omega) (by decide) ?_)
        intro A5 c5 w5 hown5 hout5
        have HO5 := hid (show w5.ownsRow w.heap.size 35 2 (.slice A5 (m + 1) c5) (m + 1) ((takeF F (filmR L x) (k + 1)).flatMap T2.v) by rw [HO2.out]; exact hown5)
        have HT5 := hid hout5
        clear hown5 hout5
        go_wp2_with fail
        go_roundw
        case rel => exact ⟨k + 1, A5, m + 1, c5, by omega, by go_num, rfl, HO5.out, HT5.out⟩
        case measure => simp [intOf]; omega
    · obtain rfl : k = F.length := by omega
      go_wp2_with fail
      refine bodyPost_ret (v := .slice A' m c') (by first | rfl | (simp [results, Try.results22, go_sem]; done)) rfl ?_
      exact ⟨A', m, c', rfl, by rw [HV.out]; exact HOW.out, HX.out⟩
theorem filmedL_len (L : List T2) (x : T7) : (filmedL L x).length ≤ 7000 := by
  unfold filmedL
  split
  · rename_i h
    simp only [Bool.and_eq_true] at h
    have hr : roomS L = true := by
      cases hr : roomS L
      · have := h.2; rw [isIn_val, hr] at this; simp at this
      · rfl
    exact Nat.le_trans (List.length_filter_le _ _) (floor_len hr)
  · simp
theorem iFilmed_at (A : Option Addr) (n c : Nat) (L : List T2) (xa xb xc xd xe xf xg : Int) (w : World) (hl : Row w A (L.flatMap T2.v)) (hn : L.length = n) (hx : n ≤ 1048577) :
    Calls Try.prog 23 #[.agg #[.slice A n c], .agg #[.int .i64 xa, .int .i64 xb, .int .i64 xc, .int .i64 xd, .int .i64 xe, .int .i64 xf, .int .i64 xg]] w fun en w' => ∃ A' q c', en = .returned (.slice A' q c') ∧ w'.ownsRow w.heap.size 35 2 (.slice A' q c') q ((filmedL L (⟨xa, xb, xc, xd, xe, xf, xg⟩ : T7)).flatMap T2.v) ∧ Ext w w' :=
  iFilmed_any A n c L ⟨xa, xb, xc, xd, xe, xf, xg⟩ w hl hn hx
theorem sFilmed_at (A : Option Addr) (n c : Nat) (L : List T2) (xa xb xc xd xe xf xg : Int) (w : World) (hl : Row w A (L.flatMap T2.v)) (hn : L.length = n) (hx : n ≤ 1048577) :
    Calls Try.prog 22 #[.agg #[.slice A n c], .agg #[.int .i64 xa, .int .i64 xb, .int .i64 xc, .int .i64 xd, .int .i64 xe, .int .i64 xf, .int .i64 xg]] w fun en w' => ∃ A' q c', en = .returned (.slice A' q c') ∧ w'.ownsRow w.heap.size 35 2 (.slice A' q c') q ((filmedL L (⟨xa, xb, xc, xd, xe, xf, xg⟩ : T7)).flatMap T2.v) ∧ Ext w w' :=
  sFilmed_any A n c L ⟨xa, xb, xc, xd, xe, xf, xg⟩ w hl hn hx
end Go.Proofs.Ytmghngdafgebjaa
