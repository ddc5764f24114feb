/- Walks: the reference's counts of cameras at each point of a floor. Conditions: a valid room, points of its floor. -/
import Derived.Test.YtmghngdafgebjaaCounts
import Derived.Laws.MakeOwn
namespace Go.Proofs.Ytmghngdafgebjaa
open Go.RowKit
set_option linter.unusedVariables false

theorem own_intC {w : World} {base : Nat} {e : TypeId} {g n cap : Nat} {l : List Int} (h : w.ownsRow base e 1 (.slice (some ⟨g, 0, none⟩) n cap) n (l.map (Value.int .i64))) {j : Nat} (hj : j < n) {v : Int} (hv : l[j]? = some v) : w.cell? ⟨g, j, none⟩ = some (.int .i64 v) ∧ w.frozen? ⟨g, j, none⟩ = false := by
  refine ⟨?_, h.frozenAt j⟩
  rw [h.cellAt j (by omega), List.getElem?_map, hv]; rfl
theorem info_intC : (Try.prog.info? 3).map (fun i => (i.zero, i.size, i.bytes)) = some (some (.int .i64 0), 1, 8) := by kernel_rfl
set_option maxHeartbeats 3200000 in
set_option maxRecDepth 100000 in
theorem counts_any (A : Option Addr) (n c : Nat) (L : List T2) (D : Option Addr) (q e : Nat) (F : List T2) (B : Option Addr) (m d : Nat) (C : List T7) (w : World) (hl : Row w A (L.flatMap T2.v)) (hn : L.length = n) (hro : roomS L = true) (hf : Row w D (F.flatMap T2.v)) (hq : F.length = q) (hq7 : q ≤ 7000) (hon : ∀ k, k < F.length → onFloor L (at2 F k)) (hr : Row w B (C.flatMap T7.v)) (hm : C.length = m) (hy : m ≤ 1048577) :
    Calls Try.prog 54 #[.agg #[.slice A n c], .slice D q e, .slice B m d] w fun en w' => ∃ E c', en = .returned (.slice E q c') ∧ w'.ownsRow w.heap.size 3 1 (.slice E q c') q ((rowC L C F m 0).map (Value.int .i64)) ∧ Ext w w' := by
  subst hq hm
  have HL := hid hl
  have HF := hid hf
  have HR := hid hr
  have HON := hid hon
  clear hl hf hr hon
  obtain ⟨i0, hi, hz0, hz1, hz2⟩ := info_parts info_intC
  have HI := hid (And.intro hi (And.intro hz0 (And.intro hz1 hz2)))
  clear hi hz0 hz1 hz2
  go_enter Try.func54, Try.ntmps54
  go_wp2_with (at_make; refine wpList_make_full _ rfl (.tmp 11) (.tmp 11) 71 rfl (w.heap.size + 1) 3 i0 _ 1 Try.underlying71 HI.out.1 HI.out.2.1 HI.out.2.2.1 _ _ _ _ F.length rfl rfl rfl rfl (by rw [HI.out.2.2.2]; omega) (by unfold maxLen; omega) (by simp) ?_)
  intro w1 hown hg
  have heB : Ext (w.alloc (.cells #[.slice A n c] 33)) w1 := (Below.refl _ _).grown hg (Nat.le_refl _) (by simp)
  rw [show (madeCells #[Value.int .i64 0] F.length).toList = (rowC L C F 0 0).map (Value.int .i64) from by rw [rowC_zero, List.map_replicate]; exact toList_madeCells_one _ _] at hown
  obtain ⟨wb, hwb⟩ : ∃ wb, wb = w.alloc (.cells #[.slice A n c] 33) := ⟨_, rfl⟩
  have hsz : wb.heap.size = w.heap.size + 1 := by rw [hwb]; simp
  have hew : Ext w wb := by rw [hwb]; repeat (first | exact Ext.refl _ | refine Ext.alloc ?_ _ | assumption | refine Ext.over ?_ _ | refine Ext.drew ?_ | refine Ext.drewN ?_ _)
  have b0 : wb.cell? ⟨w.heap.size, 0, none⟩ = some (.slice A n c) := by rw [hwb]; go_simp
  rw [← hwb] at heB
  have hown : w1.ownsRow wb.heap.size 3 1 (.slice (some ⟨w.heap.size + 1, 0, none⟩) F.length F.length) F.length ((rowC L C F 0 0).map (Value.int .i64)) := by rw [hsz]; exact hown
  have HW := hid hew
  have HO1 := hid hown
  have HE1 := hid heB
  have HSZ := hid hsz
  generalize w.heap.size = gr at *
  clear hown heB hg hwb hew hsz
  go_wp2_with fail
  go_loopw [8] (fun kv wr => ∃ (k : Nat), k ≤ C.length ∧ kv = .int .i64 ↑k ∧ wr.ownsRow wb.heap.size 3 1 (.slice (some ⟨gr + 1, 0, none⟩) F.length F.length) F.length ((rowC L C F k 0).map (Value.int .i64)) ∧ Ext wb wr) (fun kv _ => C.length - (intOf kv).toNat)
  case atStart => exact ⟨0, by omega, rfl, HO1.out, HE1.out⟩
  case round =>
    clear HO1 HE1
    obtain ⟨k, hk, rfl, hown, he⟩ := hrel
    have HO := hid hown
    have HE := hid he
    have HX := hid (HW.out.trans he)
    have r0 := old_cell he b0
    clear hown he
    by_cases hlt : k < C.length
    · obtain ⟨blk, off, hB, hc⟩ := (HR.out.ext HW.out).t7 hlt
      obtain ⟨k1, k2, k3, k4, k5, k6, k7⟩ := hc k hlt
      have hkt : (k : Int) < C.length := by omega
      have HFO := hid (fun i (hi : i < F.length) => film_on hro (x := at7 C k) (HON.out i hi))
      have HSK := hid (fun h => rowC_skip (L := L) (C := C) (F := F) (k := k) h)
      have HNO := hid (fun i h => rowC_no (L := L) (C := C) (F := F) (k := k) (i := i) h)
      have HYES := hid (fun i hi h => rowC_yes (L := L) (C := C) (F := F) (k := k) (i := i) hi h)
      have h10 := (roomP_of hro).hi
      subst hB
      generalize at7 C k = x at k1 k2 k3 k4 k5 k6 k7 HFO HSK HNO HYES
      have c1 := old_cell HE.out k1
      have c2 := old_cell HE.out k2
      have c3 := old_cell HE.out k3
      have c4 := old_cell HE.out k4
      have c5 := old_cell HE.out k5
      have c6 := old_cell HE.out k6
      have c7 := old_cell HE.out k7
      have H1 := hid (fun w' => sCameraOk_any x w')
      have H3 := hid (fun w' (h : Row w' A (L.flatMap T2.v)) => holds_any A n c L (camAt x) w' h hn (by omega))
      unfold ptV camAt camV at *
      clear hc
      cases h1 : camOk x
      · have HN := hid (HSK.out (fun i hi => by rw [HFO.out i hi, h1]; rfl))
        go_wp2_with fail
        (refine wp_region_calm (by kernel_rfl) (by kernel_rfl) ?_; (repeat (go_big_quiet_step ((go_at_call 44; exact (gives_b h1 (H1.out _)).calm)))); refine wpQuiet_nil ?_; rintro w1 ⟨x1, rfl⟩)
        go_wp2_with fail
        go_roundw
        case rel => exact ⟨k + 1, by omega, by go_num, by rw [HN.out]; exact own_ext HO.out (by repeat (first | exact Ext.refl _ | refine Ext.alloc ?_ _ | assumption | refine Ext.over ?_ _ | refine Ext.drew ?_ | refine Ext.drewN ?_ _)), HE.out.trans (by repeat (first | exact Ext.refl _ | refine Ext.alloc ?_ _ | assumption | refine Ext.over ?_ _ | refine Ext.drew ?_ | refine Ext.drewN ?_ _))⟩
        case measure => simp [intOf]; omega
      · have hph := place_holds (p := (⟨x.a, x.b⟩ : T2)) (roomS_small hro) (small_pok (camOk_at h1))
        rcases place_range L ⟨x.a, x.b⟩ with h3 | h3 | h3
        · have hz : holdsS L ⟨x.a, x.b⟩ = -1 := by omega
          have HN := hid (HSK.out (fun i hi => by rw [HFO.out i hi, h3]; simp))
          go_wp2_with fail
          (refine wp_region_calm (by kernel_rfl) (by kernel_rfl) ?_; (repeat (go_big_quiet_step (first | (go_at_call 44; exact (gives_b h1 (H1.out _)).calm) | (go_at_call 67; exact (gives_v hz (H3.out _ (HL.out.ext (HX.out.trans (by repeat (first | exact Ext.refl _ | refine Ext.alloc ?_ _ | assumption | refine Ext.over ?_ _ | refine Ext.drew ?_ | refine Ext.drewN ?_ _)))))).calm)))); refine wpQuiet_nil ?_; rintro w1 ⟨x1, rfl⟩)
          go_wp2_with fail
          go_roundw
          case rel => exact ⟨k + 1, by omega, by go_num, by rw [HN.out]; exact own_ext HO.out (by repeat (first | exact Ext.refl _ | refine Ext.alloc ?_ _ | assumption | refine Ext.over ?_ _ | refine Ext.drew ?_ | refine Ext.drewN ?_ _)), HE.out.trans (by repeat (first | exact Ext.refl _ | refine Ext.alloc ?_ _ | assumption | refine Ext.over ?_ _ | refine Ext.drew ?_ | refine Ext.drewN ?_ _))⟩
          case measure => simp [intOf]; omega
        all_goals
          obtain ⟨hv, hz, hv0⟩ : ∃ hv : Int, holdsS L ⟨x.a, x.b⟩ = hv ∧ (hv = 0 ∨ hv = 1) := ⟨_, rfl, by omega⟩
          have H4 := hid (fun p (hp : onFloor L p) w' (h : Row w' A (L.flatMap T2.v)) => l08Sees_any A n c L ⟨x.a, x.b⟩ p w' h hn hro)
          have H5 := hid (fun (p : T2) w' => sInField_any x p.a p.b w')
          have HKO := hid (show ∀ i, i < F.length → filmR L x (at2 F i) = (inFld x (at2 F i).a (at2 F i).b && seesS L ⟨x.a, x.b⟩ (at2 F i)) from fun i hi => by
            rw [HFO.out i hi, h3]; unfold inFld; rw [h1, show pok (at2 F i).a (at2 F i).b = true from (HON.out i hi).1]; simp)
          unfold ptV camV at *
          have hvn : decide (hv < 0) = false := decide_eq_false (by omega)
          have HHV := hid hv0
          clear hv0
          go_wp2_with fail
          (refine wp_region_calm (by kernel_rfl) (by kernel_rfl) ?_; (repeat (go_big_quiet_step (first | (go_at_call 44; exact (gives_b h1 (H1.out _)).calm) | (go_at_call 67; exact (gives_v hz (H3.out _ (HL.out.ext (HX.out.trans (by repeat (first | exact Ext.refl _ | refine Ext.alloc ?_ _ | assumption | refine Ext.over ?_ _ | refine Ext.drew ?_ | refine Ext.drewN ?_ _)))))).calm)))); refine wpQuiet_nil ?_; rintro w1 ⟨x1, rfl⟩)
          go_wp2_with fail
          obtain ⟨wi, hwi⟩ : ∃ wi, wi = ovr wr x1 := ⟨_, rfl⟩
          have ewi : Ext wr wi := by rw [hwi]; repeat (first | exact Ext.refl _ | refine Ext.alloc ?_ _ | assumption | refine Ext.over ?_ _ | refine Ext.drew ?_ | refine Ext.drewN ?_ _)
          have HOI := hid (own_ext HO.out ewi)
          have HEI := hid (HE.out.trans ewi)
          rw [← hwi]
          clear hwi ewi c1 c2 c3 c4 c5 c6 c7 HO HE
          go_loopw [9] (fun iv wz => ∃ (i : Nat), i ≤ F.length ∧ iv = .int .i64 ↑i ∧ wz.ownsRow wb.heap.size 3 1 (.slice (some ⟨gr + 1, 0, none⟩) F.length F.length) F.length ((rowC L C F k i).map (Value.int .i64)) ∧ Ext wb wz) (fun iv _ => F.length - (intOf iv).toNat)
          case atStart => exact ⟨0, by omega, rfl, HOI.out, HEI.out⟩
          case round =>
            clear HOI HEI
            obtain ⟨i, hi, rfl, hown, he⟩ := hrel
            rename World => wo
            have HO := hid hown
            have HE := hid he
            have HX := hid (HW.out.trans he)
            have r0 := old_cell he b0
            clear hown he
            by_cases hli : i < F.length
            · obtain ⟨fb, fo, hD, hcf⟩ := (HF.out.ext HX.out).t2 hli
              obtain ⟨p1, p2⟩ := hcf i hli
              have hli' : (i : Int) < F.length := by omega
              have c1 := old_cell HE.out k1
              have c2 := old_cell HE.out k2
              have c3 := old_cell HE.out k3
              have c4 := old_cell HE.out k4
              have c5 := old_cell HE.out k5
              have c6 := old_cell HE.out k6
              have c7 := old_cell HE.out k7
              have HPO := hid (HON.out i hli)
              have HV := hid (HKO.out i hli)
              have HNI := hid (HNO.out i)
              have HYI := hid (HYES.out i hli)
              have hzi : (rowC L C F k i)[i]? = some ((cAt L C F i k : Nat) : Int) := by rw [rowC_at hli, if_neg (by omega)]
              obtain ⟨z0, zf⟩ := own_intC HO.out hli hzi
              have hzk : cAt L C F i k ≤ k := cntN_le _ _
              generalize cAt L C F i k = z at z0 hzk HYI
              subst hD
              generalize at2 F i = p at p1 p2 HPO HV HNI HYI
              clear hcf hzi
              cases h6 : inFld x p.a p.b
              · have HN := hid (HNI.out (by rw [HV.out, h6]; rfl))
                go_wp2_with fail
                (refine wp_region_calm (by kernel_rfl) (by kernel_rfl) ?_; (repeat (go_big_quiet_step ((go_at_call 38; exact (gives_b h6 (H5.out _ _)).calm)))); refine wpQuiet_nil ?_; rintro w1 ⟨x1, rfl⟩)
                go_wp2_with fail
                go_roundw
                case rel => exact ⟨i + 1, by omega, by go_num, by rw [HN.out]; exact own_ext HO.out (by repeat (first | exact Ext.refl _ | refine Ext.alloc ?_ _ | assumption | refine Ext.over ?_ _ | refine Ext.drew ?_ | refine Ext.drewN ?_ _)), HE.out.trans (by repeat (first | exact Ext.refl _ | refine Ext.alloc ?_ _ | assumption | refine Ext.over ?_ _ | refine Ext.drew ?_ | refine Ext.drewN ?_ _))⟩
                case measure => simp [intOf]; omega
              have HS := hid (H4.out p HPO.out)
              cases h7 : seesS L ⟨x.a, x.b⟩ p
              · have HN := hid (HNI.out (by rw [HV.out, h6, h7]; rfl))
                go_wp2_with fail
                (refine wp_region_calm (by kernel_rfl) (by kernel_rfl) ?_; (repeat (go_big_quiet_step (first | (go_at_call 38; exact (gives_b h6 (H5.out _ _)).calm) | (go_at_call 47; exact (gives_b h7 (HS.out _ (HL.out.ext (HX.out.trans (by repeat (first | exact Ext.refl _ | refine Ext.alloc ?_ _ | assumption | refine Ext.over ?_ _ | refine Ext.drew ?_ | refine Ext.drewN ?_ _)))))).calm)))); refine wpQuiet_nil ?_; rintro w1 ⟨x1, rfl⟩)
                go_wp2_with fail
                go_roundw
                case rel => exact ⟨i + 1, by omega, by go_num, by rw [HN.out]; exact own_ext HO.out (by repeat (first | exact Ext.refl _ | refine Ext.alloc ?_ _ | assumption | refine Ext.over ?_ _ | refine Ext.drew ?_ | refine Ext.drewN ?_ _)), HE.out.trans (by repeat (first | exact Ext.refl _ | refine Ext.alloc ?_ _ | assumption | refine Ext.over ?_ _ | refine Ext.drew ?_ | refine Ext.drewN ?_ _))⟩
                case measure => simp [intOf]; omega
              · have HN := hid (HYI.out (by rw [HV.out, h6, h7]; rfl))
                go_wp2_with fail
                (refine wp_region_calm (by kernel_rfl) (by kernel_rfl) ?_; (repeat (go_big_quiet_step (first | (go_at_call 38; exact (gives_b h6 (H5.out _ _)).calm) | (go_at_call 47; exact (gives_b h7 (HS.out _ (HL.out.ext (HX.out.trans (by repeat (first | exact Ext.refl _ | refine Ext.alloc ?_ _ | assumption | refine Ext.over ?_ _ | refine Ext.drew ?_ | refine Ext.drewN ?_ _)))))).calm)))); refine wpQuiet_nil ?_; rintro w1 ⟨x1, rfl⟩)
                obtain ⟨wy, hwy⟩ : ∃ wy, wy = ovr wo x1 := ⟨_, rfl⟩
                have ewy : Ext wo wy := by rw [hwy]; repeat (first | exact Ext.refl _ | refine Ext.alloc ?_ _ | assumption | refine Ext.over ?_ _ | refine Ext.drew ?_ | refine Ext.drewN ?_ _)
                have HOY := hid (own_ext HO.out ewy)
                have HEY := hid (HE.out.trans ewy)
                have z1 := old_cell ewy z0
                have zg := HOY.out.frozenAt i
                rw [← hwy]
                clear hwy ewy HO HE z0 zf
                go_wp2_with fail
                go_roundw
                case rel => exact ⟨i + 1, by omega, by go_num, by rw [HN.out, List.map_set]; exact (HOY.out.stored i (.int .i64 (z + 1))).1, HEY.out.setCell (by show wb.heap.size ≤ gr + 1; rw [HSZ.out]; exact Nat.le_refl _) _⟩
                case measure => simp [intOf]; omega
            · obtain rfl : i = F.length := by omega
              go_wp2_with fail
              go_roundw
              case rel => exact ⟨k + 1, by omega, by go_num, by rw [← rowC_full]; exact HO.out, HE.out⟩
              case measure => simp [intOf]; omega
    · obtain rfl : k = C.length := by omega
      go_wp2_with fail
      refine bodyPost_ret (v := .slice (some ⟨gr + 1, 0, none⟩) F.length F.length) (by first | rfl | (simp [results, Try.results54, go_sem]; done)) rfl ?_
      exact ⟨_, _, rfl, own_base HO.out (by have := HW.out.size; omega), HX.out⟩
end Go.Proofs.Ytmghngdafgebjaa
