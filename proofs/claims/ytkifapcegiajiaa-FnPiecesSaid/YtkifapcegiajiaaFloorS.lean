/- Walks: the reference's points of a floor. Conditions: at most 1048577 corners. -/
import Derived.Test.YtkifapcegiajiaaFloor
import Derived.StillTailTactics
namespace Go.Proofs.Ytkifapcegiajiaa
open Go.RowKit
set_option linter.unusedVariables false

theorem Two.put0 {w : World} {b : Nat} {x y x' : Int} (h : Two w b x y) : Two (w.setCell ⟨b, 0, none⟩ (.int .i64 x')) b x' y := by
  obtain ⟨h0, h1, f0, f1⟩ := h
  refine ⟨?_, ?_, ?_, ?_⟩
  all_goals go_simp
theorem Two.put1 {w : World} {b : Nat} {x y y' : Int} (h : Two w b x y) : Two (w.setCell ⟨b, 1, none⟩ (.int .i64 y')) b x y' := by
  obtain ⟨h0, h1, f0, f1⟩ := h
  refine ⟨?_, ?_, ?_, ?_⟩
  all_goals go_simp
theorem cell_keep {w : World} {p : Addr} {c j : Nat} {v u : Value} (h : w.cell? p = some v) (hne : ¬ p.block = c) : (w.setCell ⟨c, j, none⟩ u).cell? p = some v := by
  have := Below.heap_setCell w ⟨c, j, none⟩ u p.block (by intro e; exact hne e)
  exact (World.cell?_of_block this).trans h
def floorR (L : List T2) : List T2 := if roomS L then floorL L else []
set_option maxHeartbeats 3200000 in
set_option maxRecDepth 100000 in
theorem sFloor_any (A : Option Addr) (n c : Nat) (L : List T2) (w : World) (hl : Row w A (L.flatMap T2.v)) (hn : L.length = n) (hx : n ≤ 1048577) :
    Calls Try.prog 19 #[.agg #[.slice A n c]] w fun en w' => ∃ B m c', en = .returned (.slice B m c') ∧ w'.ownsRow w.heap.size 35 2 (.slice B m c') m ((floorR L).flatMap T2.v) ∧ Ext w w' := by
  have HL := hid hl
  clear hl
  cases hr : roomS L
  · have HF := hid (show floorR L = [] by unfold floorR; rw [hr]; rfl)
    go_enter Try.func19, Try.ntmps19
    go_wp2_with (go_at_call 45; refine (gives_b hr (sRoomOk_any A n c L _ (HL.out.ext (by repeat (first | exact Ext.refl _ | refine Ext.alloc ?_ _ | assumption | refine Ext.over ?_ _ | refine Ext.drew ?_ | refine Ext.drewN ?_ _))) hn hx)).over.mono ?_; rintro e w' ⟨rfl, xw, rfl⟩)
    refine bodyPost_ret (v := .slice (some ⟨w.heap.size + 1, 0, none⟩) 0 0) (by first | rfl | (simp [results, Try.results19, go_sem]; done)) rfl ?_
    refine ⟨_, _, _, rfl, ?_, by repeat (first | exact Ext.refl _ | refine Ext.alloc ?_ _ | assumption | refine Ext.over ?_ _ | refine Ext.drew ?_ | refine Ext.drewN ?_ _)⟩
    rw [HF.out]
    exact own_ext (own_empty (w.alloc (.cells #[.slice A n c] 33)) (w.heap.size + 1) w.heap.size (by simp) (by simp) 35 2) (by repeat (first | exact Ext.refl _ | refine Ext.alloc ?_ _ | assumption | refine Ext.over ?_ _ | refine Ext.drew ?_ | refine Ext.drewN ?_ _))
  have hp := roomP_of hr
  have h3 := hp.lo
  have h10 := hp.hi
  have HSM := hid (fun j hj => roomS_small hr j hj)
  have HF := hid (show floorR L = floorL L by unfold floorR; rw [hr]; rfl)
  subst hn
  have HP := hid hp
  clear hp
  obtain ⟨b, off, rfl, hc⟩ := HL.out.t2 (i := 0) (by omega)
  have hz0 : ¬ L = [] := fun e => by rw [e] at h3; simp at h3
  obtain ⟨c1, c2⟩ := hc 0 (by omega)
  have e00 : off + 0 * 2 = off := by omega
  rw [e00] at c1 c2
  have h0n : 0 < L.length := by omega
  clear hc e00
  go_enter Try.func19, Try.ntmps19
  go_wp2_with fail
  obtain ⟨wa, hwa⟩ : ∃ wa, wa = (w.alloc (.cells #[.slice (some ⟨b, off, none⟩) L.length c] 33)).alloc (.cells #[] 35) := ⟨_, rfl⟩
  refine (gives_b hr (sRoomOk_any _ L.length c L _ (HL.out.ext (by repeat (first | exact Ext.refl _ | refine Ext.alloc ?_ _ | assumption | refine Ext.over ?_ _ | refine Ext.drew ?_ | refine Ext.drewN ?_ _))) rfl hx)).mono ?_
  rintro _ w1 ⟨rfl, e1⟩
  have hw1 : Ext w w1 := Ext.trans (by repeat (first | exact Ext.refl _ | refine Ext.alloc ?_ _ | assumption | refine Ext.over ?_ _ | refine Ext.drew ?_ | refine Ext.drewN ?_ _)) e1
  have r0 : w1.cell? ⟨w.heap.size, 0, none⟩ = some (.slice (some ⟨b, off, none⟩) L.length c) := old_cell e1 (by go_simp)
  have hown := own_ext (own_empty (w.alloc (.cells #[.slice (some ⟨b, off, none⟩) L.length c] 33)) (w.heap.size + 1) w.heap.size (by simp) (by simp) 35 2) (show Ext _ w1 from e1)
  have c1 := old_cell hw1 c1
  have c2 := old_cell hw1 c2
  have hs1 : w.heap.size + 1 < w1.heap.size := by have := e1.size; simp at this; omega
  have HW := hid hw1
  have HO := hid hown
  clear hwa e1 hw1 hown wa
  go_wp2_with fail
  have TA : Two ((w1.alloc (.cells #[.int .i64 (at2 L 0).a, .int .i64 (at2 L 0).b] 35)).alloc (.cells #[.int .i64 (at2 L 0).a, .int .i64 (at2 L 0).b] 35)) w1.heap.size (at2 L 0).a (at2 L 0).b := Two.fresh.ext (by repeat (first | exact Ext.refl _ | refine Ext.alloc ?_ _ | assumption | refine Ext.over ?_ _ | refine Ext.drew ?_ | refine Ext.drewN ?_ _))
  have TB : Two ((w1.alloc (.cells #[.int .i64 (at2 L 0).a, .int .i64 (at2 L 0).b] 35)).alloc (.cells #[.int .i64 (at2 L 0).a, .int .i64 (at2 L 0).b] 35)) (w1.heap.size + 1) (at2 L 0).a (at2 L 0).b := by
    have := Two.fresh (w := (w1.alloc (.cells #[.int .i64 (at2 L 0).a, .int .i64 (at2 L 0).b] 35))) (x := (at2 L 0).a) (y := (at2 L 0).b) (t := 35)
    simpa using this
  obtain ⟨gl, hgl⟩ : ∃ gl, gl = w1.heap.size := ⟨_, rfl⟩
  obtain ⟨gh, hgh⟩ : ∃ gh, gh = gl + 1 := ⟨_, rfl⟩
  rw [← hgl] at TA TB ⊢
  rw [← hgh] at TB ⊢
  obtain ⟨W, hW⟩ : ∃ W, W = ((w1.alloc (.cells #[.int .i64 (at2 L 0).a, .int .i64 (at2 L 0).b] 35)).alloc (.cells #[.int .i64 (at2 L 0).a, .int .i64 (at2 L 0).b] 35)) := ⟨_, rfl⟩
  have HE0 := hid (show Ext w1 W by rw [hW]; repeat (first | exact Ext.refl _ | refine Ext.alloc ?_ _ | assumption | refine Ext.over ?_ _ | refine Ext.drew ?_ | refine Ext.drewN ?_ _))
  have r0 := old_cell HE0.out r0
  rw [← hW] at TA TB ⊢
  have g1 : w.heap.size < gl := by omega
  have g2 : w.heap.size < gh := by omega
  have g3 : gl ≠ gh := by omega
  have hbw : b < w.heap.size := by obtain ⟨b', off', e, hc'⟩ := HL.out.at_ (j := 0 * 2) (by rw [flat_len _ 2 T2.len]; omega); cases e; exact World.block_lt_of_cell? w _ (hc' (0 * 2 + 0) _ (flat_get T2.v 2 T2.len L 0 0 h0n (by omega)))
  have hglw : w1.heap.size ≤ gl := by omega
  have hghw : w1.heap.size ≤ gh := by omega
  have hsgl : gl < W.heap.size := by rw [hW, hgl]; simp; omega
  have hsgh : gh < W.heap.size := by rw [hW, hgh, hgl]; simp
  clear hW hgl hgh c1 c2
  go_loopw [6] (fun kv wr => ∃ (k : Nat), k ≤ L.length ∧ kv = .int .i64 ↑k ∧ Two wr gl (lowX L k) (lowY L k) ∧ Two wr gh (higX L k) (higY L k) ∧ Ext w1 wr ∧ W.heap.size ≤ wr.heap.size ∧ wr.cell? ⟨w.heap.size, 0, none⟩ = some (.slice (some ⟨b, off, none⟩) L.length c)) (fun kv _ => L.length - (intOf kv).toNat)
  case atStart => exact ⟨0, by omega, rfl, TA, TB, HE0.out, Nat.le_refl _, r0⟩
  case round =>
    clear TA TB r0 HE0
    obtain ⟨k, hk, rfl, t1, t2, he, hsW, r1⟩ := hrel
    have HE := hid he
    have hbb := box_bound HP.out k hk
    obtain ⟨⟨b1, b2, b3⟩, b4, b5, b6⟩ := hbb
    clear he
    have glT := hid t1
    have ghT := hid t2
    obtain ⟨x0, x1, f0, f1⟩ := t1
    obtain ⟨y0, y1, e0, e1⟩ := t2
    by_cases hlt : k < L.length
    · have hpk := HP.out.pok k hlt
      unfold pokT at hpk
      rw [pok_iff] at hpk
      obtain ⟨⟨p1, p2⟩, p3, p4⟩ := hpk
      obtain ⟨b', off', e', hc⟩ := (HL.out.ext (HW.out.trans HE.out)).t2 hlt
      cases e'
      obtain ⟨d1, d2⟩ := hc k hlt
      have HS := hid (show lowX L (k + 1) = min (lowX L k) (at2 L k).a ∧ lowY L (k + 1) = min (lowY L k) (at2 L k).b ∧ higX L (k + 1) = max (higX L k) (at2 L k).a ∧ higY L (k + 1) = max (higY L k) (at2 L k).b from ⟨rfl, rfl, rfl, rfl⟩)
      generalize lowX L k = lx at *
      generalize lowY L k = ly at *
      generalize higX L k = hx at *
      generalize higY L k = hy at *
      generalize at2 L k = q at *
      clear hc
      have g3' := g3.symm
      have hkt : (k : Int) < L.length := by omega
      have m1 : (if q.a < lx then q.a else lx) = lowX L (k + 1) := by rw [HS.out.1]; split <;> omega
      have m2 : (if q.b < ly then q.b else ly) = lowY L (k + 1) := by rw [HS.out.2.1]; split <;> omega
      have m3 : (if hx < q.a then q.a else hx) = higX L (k + 1) := by rw [HS.out.2.2.1]; split <;> omega
      have m4 : (if hy < q.b then q.b else hy) = higY L (k + 1) := by rw [HS.out.2.2.2]; split <;> omega
      have hbn := box_bound HP.out (k + 1) (by omega)
      obtain ⟨⟨n1, n2, n3⟩, n4, n5, n6⟩ := hbn
      go_wp2_with fail
      (refine wp_region_still_tail 10 (by kernel_rfl) (by kernel_rfl) ?_; change wpStill _ _ (World.drew _) (fun a' => wpList _ _ _ _ a' (World.drew _)) _ _; simp only [List.take_succ_cons, List.take_zero, List.drop_succ_cons, List.drop_zero]; (repeat (refine wpStill_step (fun K hK => ?_); go_simp; refine hK _ ?_; clear hK K)); refine wpStill_nil ?_)
      go_wp2_with fail
      obtain ⟨W1, hW1⟩ : ∃ W, W = (wr.setCell ⟨gl, 0, none⟩ (.int .i64 (lowX L (k + 1)))).drew := ⟨_, rfl⟩
      rw [← hW1]
      have glT := hid (show Two W1 gl (lowX L (k + 1)) ly by rw [hW1]; exact (glT.out.put0).ext (Ext.drew (Ext.refl _)))
      have ghT := hid (show Two W1 gh hx hy by rw [hW1]; exact (ghT.out.keep (fun e => g3 e.symm) _).ext (Ext.drew (Ext.refl _)))
      have r1 := (show W1.cell? ⟨w.heap.size, 0, none⟩ = some (.slice (some ⟨b, off, none⟩) L.length c) by rw [hW1]; exact old_cell (Ext.drew (Ext.refl _)) (cell_keep r1 (by show ¬ w.heap.size = gl; omega)))
      have d1 := (show W1.cell? ⟨b, off + k * 2, none⟩ = some (.int .i64 q.a) by rw [hW1]; exact old_cell (Ext.drew (Ext.refl _)) (cell_keep d1 (by show ¬ b = gl; omega)))
      have d2 := (show W1.cell? ⟨b, off + k * 2 + 1, none⟩ = some (.int .i64 q.b) by rw [hW1]; exact old_cell (Ext.drew (Ext.refl _)) (cell_keep d2 (by show ¬ b = gl; omega)))
      have HE := hid (show Ext w1 W1 by rw [hW1]; exact Ext.drew (Ext.setCell HE.out (by show w1.heap.size ≤ gl; omega) _))
      have hsW : W.heap.size ≤ W1.heap.size := by rw [hW1]; simpa [World.setCell] using hsW
      clear hW1 x0 x1 f0 f1 y0 y1 e0 e1
      obtain ⟨x0, x1, f0, f1⟩ := glT.out
      obtain ⟨y0, y1, e0, e1⟩ := ghT.out
      (refine wp_region_still_tail 10 (by kernel_rfl) (by kernel_rfl) ?_; change wpStill _ _ (World.drew _) (fun a' => wpList _ _ _ _ a' (World.drew _)) _ _; simp only [List.take_succ_cons, List.take_zero, List.drop_succ_cons, List.drop_zero]; (repeat (refine wpStill_step (fun K hK => ?_); go_simp; refine hK _ ?_; clear hK K)); refine wpStill_nil ?_)
      go_wp2_with fail
      obtain ⟨W2, hW2⟩ : ∃ W, W = (W1.setCell ⟨gl, 1, none⟩ (.int .i64 (lowY L (k + 1)))).drew := ⟨_, rfl⟩
      rw [← hW2]
      have glT := hid (show Two W2 gl (lowX L (k + 1)) (lowY L (k + 1)) by rw [hW2]; exact (glT.out.put1).ext (Ext.drew (Ext.refl _)))
      have ghT := hid (show Two W2 gh hx hy by rw [hW2]; exact (ghT.out.keep (fun e => g3 e.symm) _).ext (Ext.drew (Ext.refl _)))
      have r1 := (show W2.cell? ⟨w.heap.size, 0, none⟩ = some (.slice (some ⟨b, off, none⟩) L.length c) by rw [hW2]; exact old_cell (Ext.drew (Ext.refl _)) (cell_keep r1 (by show ¬ w.heap.size = gl; omega)))
      have d1 := (show W2.cell? ⟨b, off + k * 2, none⟩ = some (.int .i64 q.a) by rw [hW2]; exact old_cell (Ext.drew (Ext.refl _)) (cell_keep d1 (by show ¬ b = gl; omega)))
      have d2 := (show W2.cell? ⟨b, off + k * 2 + 1, none⟩ = some (.int .i64 q.b) by rw [hW2]; exact old_cell (Ext.drew (Ext.refl _)) (cell_keep d2 (by show ¬ b = gl; omega)))
      have HE := hid (show Ext w1 W2 by rw [hW2]; exact Ext.drew (Ext.setCell HE.out (by show w1.heap.size ≤ gl; omega) _))
      have hsW : W.heap.size ≤ W2.heap.size := by rw [hW2]; simpa [World.setCell] using hsW
      clear hW2 x0 x1 f0 f1 y0 y1 e0 e1
      obtain ⟨x0, x1, f0, f1⟩ := glT.out
      obtain ⟨y0, y1, e0, e1⟩ := ghT.out
      (refine wp_region_still_tail 10 (by kernel_rfl) (by kernel_rfl) ?_; change wpStill _ _ (World.drew _) (fun a' => wpList _ _ _ _ a' (World.drew _)) _ _; simp only [List.take_succ_cons, List.take_zero, List.drop_succ_cons, List.drop_zero]; (repeat (refine wpStill_step (fun K hK => ?_); go_simp; refine hK _ ?_; clear hK K)); refine wpStill_nil ?_)
      go_wp2_with fail
      obtain ⟨W3, hW3⟩ : ∃ W, W = (W2.setCell ⟨gh, 0, none⟩ (.int .i64 (higX L (k + 1)))).drew := ⟨_, rfl⟩
      rw [← hW3]
      have ghT := hid (show Two W3 gh (higX L (k + 1)) hy by rw [hW3]; exact (ghT.out.put0).ext (Ext.drew (Ext.refl _)))
      have glT := hid (show Two W3 gl (lowX L (k + 1)) (lowY L (k + 1)) by rw [hW3]; exact (glT.out.keep g3 _).ext (Ext.drew (Ext.refl _)))
      have r1 := (show W3.cell? ⟨w.heap.size, 0, none⟩ = some (.slice (some ⟨b, off, none⟩) L.length c) by rw [hW3]; exact old_cell (Ext.drew (Ext.refl _)) (cell_keep r1 (by show ¬ w.heap.size = gh; omega)))
      have d1 := (show W3.cell? ⟨b, off + k * 2, none⟩ = some (.int .i64 q.a) by rw [hW3]; exact old_cell (Ext.drew (Ext.refl _)) (cell_keep d1 (by show ¬ b = gh; omega)))
      have d2 := (show W3.cell? ⟨b, off + k * 2 + 1, none⟩ = some (.int .i64 q.b) by rw [hW3]; exact old_cell (Ext.drew (Ext.refl _)) (cell_keep d2 (by show ¬ b = gh; omega)))
      have HE := hid (show Ext w1 W3 by rw [hW3]; exact Ext.drew (Ext.setCell HE.out (by show w1.heap.size ≤ gh; omega) _))
      have hsW : W.heap.size ≤ W3.heap.size := by rw [hW3]; simpa [World.setCell] using hsW
      clear hW3 x0 x1 f0 f1 y0 y1 e0 e1
      obtain ⟨x0, x1, f0, f1⟩ := glT.out
      obtain ⟨y0, y1, e0, e1⟩ := ghT.out
      (refine wp_region_still_tail 10 (by kernel_rfl) (by kernel_rfl) ?_; change wpStill _ _ (World.drew _) (fun a' => wpList _ _ _ _ a' (World.drew _)) _ _; simp only [List.take_succ_cons, List.take_zero, List.drop_succ_cons, List.drop_zero]; (repeat (refine wpStill_step (fun K hK => ?_); go_simp; refine hK _ ?_; clear hK K)); refine wpStill_nil ?_)
      go_wp2_with fail
      obtain ⟨W4, hW4⟩ : ∃ W, W = (W3.setCell ⟨gh, 1, none⟩ (.int .i64 (higY L (k + 1)))).drew := ⟨_, rfl⟩
      rw [← hW4]
      have ghT := hid (show Two W4 gh (higX L (k + 1)) (higY L (k + 1)) by rw [hW4]; exact (ghT.out.put1).ext (Ext.drew (Ext.refl _)))
      have glT := hid (show Two W4 gl (lowX L (k + 1)) (lowY L (k + 1)) by rw [hW4]; exact (glT.out.keep g3 _).ext (Ext.drew (Ext.refl _)))
      have r1 := (show W4.cell? ⟨w.heap.size, 0, none⟩ = some (.slice (some ⟨b, off, none⟩) L.length c) by rw [hW4]; exact old_cell (Ext.drew (Ext.refl _)) (cell_keep r1 (by show ¬ w.heap.size = gh; omega)))
      have d1 := (show W4.cell? ⟨b, off + k * 2, none⟩ = some (.int .i64 q.a) by rw [hW4]; exact old_cell (Ext.drew (Ext.refl _)) (cell_keep d1 (by show ¬ b = gh; omega)))
      have d2 := (show W4.cell? ⟨b, off + k * 2 + 1, none⟩ = some (.int .i64 q.b) by rw [hW4]; exact old_cell (Ext.drew (Ext.refl _)) (cell_keep d2 (by show ¬ b = gh; omega)))
      have HE := hid (show Ext w1 W4 by rw [hW4]; exact Ext.drew (Ext.setCell HE.out (by show w1.heap.size ≤ gh; omega) _))
      have hsW : W.heap.size ≤ W4.heap.size := by rw [hW4]; simpa [World.setCell] using hsW
      clear hW4 x0 x1 f0 f1 y0 y1 e0 e1
      obtain ⟨x0, x1, f0, f1⟩ := glT.out
      obtain ⟨y0, y1, e0, e1⟩ := ghT.out
      go_wp2_with fail
      go_roundw
      case rel => exact ⟨k + 1, by omega, by go_num, glT.out, ghT.out, HE.out, hsW, r1⟩
      case measure => simp [intOf]; omega
    · obtain rfl : k = L.length := by omega
      obtain ⟨H, hH⟩ : ∃ H, H = hei L := ⟨_, rfl⟩
      obtain ⟨D, hD⟩ : ∃ D, D = wid L := ⟨_, rfl⟩
      have HFL := hid (show floorR L = flo L (lowX L L.length) (lowY L L.length) D H by rw [HF.out, hH, hD]; rfl)
      unfold hei at hH
      unfold wid at hD
      generalize lowX L L.length = lx at *
      generalize lowY L L.length = ly at *
      generalize higX L L.length = hx at *
      generalize higY L L.length = hy at *
      have hHb : (H : Int) = hy - ly + 1 := by omega
      have hDb : (D : Int) = hx - lx + 1 := by omega
      clear hH hD f0 f1 e0 e1 glT ghT
      rename World => wo
      have hH81 : H ≤ 81 := by omega
      have hD81 : D ≤ 81 := by omega
      have HEW := hid (HW.out.trans HE.out)
      have hso : w.heap.size ≤ wo.heap.size := HEW.out.size
      have hgl5 : gl < wo.heap.size := by omega
      have hgh5 : gh < wo.heap.size := by omega
      have hgl6 : gl ≠ w.heap.size + 1 := by omega
      have hgh6 : gh ≠ w.heap.size + 1 := by omega
      have hwo5 : w.heap.size < wo.heap.size := by omega
      have hwo6 : w.heap.size ≠ w.heap.size + 1 := by omega
      have HOO := hid (own_ext HO.out HE.out)
      clear HO
      go_wp2_with fail
      go_loopw [3, 7] (fun ov yv wr => ∃ (k : Nat) (A' : Option Addr) (m c' : Nat), k ≤ H ∧ yv = .int .i64 (ly + k) ∧ ov = .slice A' m c' ∧ wr.ownsRow w.heap.size 35 2 (.slice A' m c') m ((flo L lx ly D k).flatMap T2.v) ∧ OutAt wo wr (w.heap.size + 1) A') (fun _ yv _ => (hy + 1 - intOf yv).toNat)
      case atStart => exact ⟨0, _, _, _, by omega, by go_num, rfl, HOO.out, OutAt.refl _ _⟩
      case round =>
        obtain ⟨k, A', m, c', hk, rfl, rfl, hown, hout⟩ := hrel
        have HO := hid hown
        have HT := hid hout
        have r1 := (hout.cell (p := ⟨w.heap.size, 0, none⟩) hwo5 hwo6).trans r1
        have x0' := (hout.cell (p := ⟨gl, 0, none⟩) hgl5 hgl6).trans x0
        have x1' := (hout.cell (p := ⟨gl, 1, none⟩) hgl5 hgl6).trans x1
        have y0' := (hout.cell (p := ⟨gh, 0, none⟩) hgh5 hgh6).trans y0
        have y1' := (hout.cell (p := ⟨gh, 1, none⟩) hgh5 hgh6).trans y1
        have HW1 := hid (hout.out HEW.out (by omega))
        clear hown hout
        by_cases hlt : k < H
        · rename World => wi
          have hle : ly + (k : Int) ≤ hy := by omega
          go_wp2_with fail
          go_loopw [3, 8] (fun ov xv wr => ∃ (j : Nat) (A' : Option Addr) (m c' : Nat), j ≤ D ∧ xv = .int .i64 (lx + j) ∧ ov = .slice A' m c' ∧ wr.ownsRow w.heap.size 35 2 (.slice A' m c') m ((flo L lx ly D k ++ rowF L (ly + k) lx j).flatMap T2.v) ∧ OutAt wo wr (w.heap.size + 1) A') (fun _ xv _ => (hx + 1 - intOf xv).toNat)
          case atStart => exact ⟨0, _, _, _, by omega, by go_num, rfl, by rw [show rowF L (ly + k) lx 0 = [] from rfl, List.append_nil]; exact HO.out, HT.out⟩
          case round =>
            clear HO HT r1 x0' x1' y0' y1'
            obtain ⟨j, A', m, c', hj, rfl, rfl, hown, hout⟩ := hrel
            have HO := hid hown
            have HT := hid hout
            have hm := own_len2 hown
            have r2 := (hout.cell (p := ⟨w.heap.size, 0, none⟩) hwo5 hwo6).trans (by assumption)
            have q0 := (hout.cell (p := ⟨gl, 0, none⟩) hgl5 hgl6).trans x0
            have q1 := (hout.cell (p := ⟨gl, 1, none⟩) hgl5 hgl6).trans x1
            have z0 := (hout.cell (p := ⟨gh, 0, none⟩) hgh5 hgh6).trans y0
            have z1 := (hout.cell (p := ⟨gh, 1, none⟩) hgh5 hgh6).trans y1
            have HW2 := hid (hout.out HEW.out (by omega))
            have hmb : m ≤ 7000 := by
              have h1 := flo_len L lx ly D k
              have h2 := rowF_len L (ly + k) lx j
              have h3 := Nat.mul_le_mul (show k ≤ 81 by omega) hD81
              rw [List.length_append] at hm
              omega
            have HLJ := hid (HL.out.ext HW2.out)
            clear hown hout hm
            by_cases hjt : j < D
            · have hje : lx + (j : Int) ≤ hx := by omega
              have hin := place_range L ⟨lx + j, ly + k⟩
              have hph := place_holds (p := ⟨lx + j, ly + k⟩) HSM.out ⟨⟨by show -200 ≤ lx + (j : Int); omega, by show lx + (j : Int) ≤ 200; omega⟩, by show -200 ≤ ly + (k : Int); omega, by show ly + (k : Int) ≤ 200; omega⟩
              rcases hin with hin | hin
              · have HR := hid (show rowF L (ly + k) lx (j + 1) = rowF L (ly + k) lx j from rowF_no (by unfold inF; rw [hin]; rfl))
                have hph' : holdsS L ⟨lx + j, ly + k⟩ = -1 := by omega
                go_wp2_with (go_at_call 46; refine (gives_v hph' (holds_any _ _ _ L ⟨lx + j, ly + k⟩ _ (HLJ.out.ext (by repeat (first | exact Ext.refl _ | refine Ext.alloc ?_ _ | assumption | refine Ext.over ?_ _ | refine Ext.drew ?_ | refine Ext.drewN ?_ _))) rfl (by omega))).over.mono ?_; rintro e w' ⟨rfl, xw, rfl⟩)
                go_roundw
                case rel => exact ⟨j + 1, A', m, c', by omega, by go_num, rfl, by rw [HR.out]; exact own_ext HO.out (by repeat (first | exact Ext.refl _ | refine Ext.alloc ?_ _ | assumption | refine Ext.over ?_ _ | refine Ext.drew ?_ | refine Ext.drewN ?_ _)), HT.out.ext (by repeat (first | exact Ext.refl _ | refine Ext.alloc ?_ _ | assumption | refine Ext.over ?_ _ | refine Ext.drew ?_ | refine Ext.drewN ?_ _))⟩
                case measure => simp [intOf]; omega
              · have HR := hid (show rowF L (ly + k) lx (j + 1) = rowF L (ly + k) lx j ++ [⟨lx + j, ly + k⟩] from rowF_yes (by unfold inF; rcases hin with h | h <;> (rw [h]; rfl)))
                have HO2 := hid (show (flo L lx ly D k ++ rowF L (ly + k) lx (j + 1)).flatMap T2.v = (flo L lx ly D k ++ rowF L (ly + k) lx j).flatMap T2.v ++ [.int .i64 (lx + j), .int .i64 (ly + k)] by rw [HR.out, ← List.append_assoc, List.flatMap_append]; rfl)
                have hown := HO.out
                generalize (flo L lx ly D k ++ rowF L (ly + k) lx j).flatMap T2.v = cs at hown HO2
                have HO3 := hid hown
                clear hown HO
                have hph' : holdsS L ⟨lx + j, ly + k⟩ = 0 ∨ holdsS L ⟨lx + j, ly + k⟩ = 1 := by omega
                rcases hph' with hph' | hph'
                all_goals
                  go_wp2_with (first | (go_at_call 46; refine (gives_v hph' (holds_any _ _ _ L ⟨lx + j, ly + k⟩ _ (HLJ.out.ext (by repeat (first | exact Ext.refl _ | refine Ext.alloc ?_ _ | assumption | refine Ext.over ?_ _ | refine Ext.drew ?_ | refine Ext.drewN ?_ _))) rfl (by omega))).over.mono ?_; rintro e w' ⟨rfl, xw, rfl⟩) | (at_builtin; refine wpList_pushO wo (w.heap.size + 1) rfl (.tmp 94) (.tmp 96) 31 rfl 35 Try.underlying31 info_Point rfl (by decide) w.heap.size _ m c' cs rfl wr HO3.out HT.out (by repeat (first | exact Ext.refl _ | refine Ext.alloc ?_ _ | assumption | refine Ext.over ?_ _ | refine Ext.drew ?_ | refine Ext.drewN ?_ _)) hso _ 1 1 [.int .i64 (lx + j), .int .i64 (ly + k)] rfl rfl (lit_cells _ _ (by first | (simp; done) | simp [ovr_size]) _ _) (by intro u hu; simp at hu; rcases hu with rfl | rfl <;> rfl) (by decide) (by omega) (by decide) ?_))
                  intro A5 c5 w5 hown5 hout5
                  have HO5 := hid (show w5.ownsRow w.heap.size 35 2 (.slice A5 (m + 1) c5) (m + 1) ((flo L lx ly D k ++ rowF L (ly + k) lx (j + 1)).flatMap T2.v) by rw [HO2.out]; exact hown5)
                  have HT5 := hid hout5
                  clear hown5 hout5
                  go_wp2_with fail
                  go_roundw
                  case rel => exact ⟨j + 1, A5, m + 1, c5, by omega, by go_num, rfl, own_ext HO5.out (by repeat (first | exact Ext.refl _ | refine Ext.alloc ?_ _ | assumption | refine Ext.over ?_ _ | refine Ext.drew ?_ | refine Ext.drewN ?_ _)), HT5.out.ext (by repeat (first | exact Ext.refl _ | refine Ext.alloc ?_ _ | assumption | refine Ext.over ?_ _ | refine Ext.drew ?_ | refine Ext.drewN ?_ _))⟩
                  case measure => simp [intOf]; omega
            · obtain rfl : j = D := by omega
              have hje : ¬ lx + (j : Int) ≤ hx := by omega
              have HLL := hid (show flo L lx ly j (k + 1) = flo L lx ly j k ++ rowF L (ly + k) lx j from rfl)
              go_wp2_with fail
              go_roundw
              case rel => exact ⟨k + 1, A', m, c', by omega, by go_num, rfl, by rw [HLL.out]; exact HO.out, HT.out⟩
              case measure => simp [intOf]; omega
        · obtain rfl : k = H := by omega
          have hle : ¬ ly + (k : Int) ≤ hy := by omega
          go_wp2_with fail
          refine bodyPost_ret (v := .slice A' m c') (by first | rfl | (simp [results, Try.results19, go_sem]; done)) rfl ?_
          exact ⟨A', m, c', rfl, by rw [HFL.out]; exact HO.out, HW1.out⟩
end Go.Proofs.Ytkifapcegiajiaa
