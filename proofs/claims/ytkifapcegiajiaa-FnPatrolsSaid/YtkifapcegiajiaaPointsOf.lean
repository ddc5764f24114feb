/- Walks: the reference's points of corners. Conditions: a valid room, valid corners. -/
import Derived.Test.YtkifapcegiajiaaCornerI
import Derived.Test.YtkifapcegiajiaaWalls
namespace Go.Proofs.Ytkifapcegiajiaa
open Go.RowKit
set_option linter.unusedVariables false

def ptsL (L : List T2) (ks : List Nat) : List T2 := ks.map (at2 L)
theorem ptsL_take {L : List T2} {ks : List Nat} {k : Nat} (h : k < ks.length) : ptsL L (ks.take (k + 1)) = ptsL L (ks.take k) ++ [at2 L ks[k]] := by
  unfold ptsL
  rw [List.take_succ_eq_append_getElem h, List.map_append]; rfl
set_option maxHeartbeats 1600000 in
set_option maxRecDepth 100000 in
theorem sPoints_any (A : Option Addr) (n c : Nat) (L : List T2) (B : Option Addr) (m d : Nat) (ks : List Nat) (w : World) (hl : Row w A (L.flatMap T2.v)) (hn : L.length = n) (hro : roomS L = true) (hr : Row w B (vl ks)) (hm : ks.length = m) (hy : m ≤ 40) (hks : ∀ k ∈ ks, k < L.length) :
    Calls Try.prog 73 #[.agg #[.slice A n c], .slice B m d] w fun en w' => ∃ g c', en = .returned (.slice (some ⟨g, 0, none⟩) m c') ∧ w'.ownsRow w.heap.size 35 2 (.slice (some ⟨g, 0, none⟩) m c') m ((ptsL L ks).flatMap T2.v) ∧ Ext w w' := by
  subst hn hm
  have hn10 : L.length ≤ 10 := (roomP_of hro).hi
  obtain ⟨w0, hw0⟩ : ∃ w0, w0 = w.alloc (.cells #[.slice A L.length c] 33) := ⟨_, rfl⟩
  have e0 : Ext w w0 := by rw [hw0]; repeat (first | exact Ext.refl _ | refine Ext.alloc ?_ _ | assumption | refine Ext.over ?_ _ | refine Ext.drew ?_ | refine Ext.drewN ?_ _)
  have r0 := (show w0.cell? ⟨w.heap.size, 0, none⟩ = some (.slice A L.length c) by rw [hw0]; go_simp)
  have hs0 : w0.heap.size = w.heap.size + 1 := by rw [hw0]; simp
  have HS0 := hid hs0
  have HR0 := hid r0
  have HE0 := hid e0
  have HL := hid (hl.ext e0)
  have HK := hid (hr.ext e0)
  have HRO := hid (fun w' (e : Ext w0 w') => gives_b hro (sRoomOk_any A L.length c L w' (HL.out.ext e) rfl (by omega)))
  have HKS := hid hks
  clear hl hr hks r0 e0 hs0
  go_enter Try.func73, Try.ntmps73
  go_wp2_with fail
  rw [← hw0]
  clear hw0
  have hbs : w.heap.size < w0.heap.size := by have := HS0.out; omega
  rw [← HS0.out]
  go_loopw [5, 6] (fun ov kv wr => ∃ (k g c' : Nat), k ≤ ks.length ∧ kv = .int .i64 ↑k ∧ ov = .slice (some ⟨g, 0, none⟩) k c' ∧ wr.ownsRow w0.heap.size 35 2 (.slice (some ⟨g, 0, none⟩) k c') k ((ptsL L (ks.take k)).flatMap T2.v) ∧ Ext w0 wr) (fun _ kv _ => ks.length - (intOf kv).toNat)
  case atStart => exact ⟨0, _, _, by omega, rfl, rfl, own_empty w0 _ _ rfl (Nat.le_refl _) _ _, by repeat (first | exact Ext.refl _ | refine Ext.alloc ?_ _ | assumption | refine Ext.over ?_ _ | refine Ext.drew ?_ | refine Ext.drewN ?_ _)⟩
  case round =>
    obtain ⟨k, go, c', hkl, rfl, rfl, hown, he⟩ := hrel
    have HO := hid hown
    have HE := hid he
    clear hown he
    by_cases hlt : k < ks.length
    · have hkt : (k : Int) < ks.length := by omega
      obtain ⟨kv, hkv⟩ : ∃ kv, kv = ks[k] := ⟨_, rfl⟩
      have hkn : kv < L.length := by rw [hkv]; exact HKS.out _ (List.getElem_mem hlt)
      have hknt : (kv : Int) < L.length := by omega
      have HT := hid (show ptsL L (ks.take (k + 1)) = ptsL L (ks.take k) ++ [at2 L kv] by rw [hkv]; exact ptsL_take hlt)
      obtain ⟨b1, o1, hB, hcB⟩ := (HK.out.ext HE.out).at_ (j := k) (by rw [vl_len]; exact hlt)
      have y0 := hcB k (.int .i64 (kv : Int)) (by unfold vl; rw [List.getElem?_map, List.getElem?_eq_getElem hlt, hkv]; rfl)
      obtain ⟨b2, o2, hA, hcA⟩ := (HL.out.ext HE.out).t2 hkn
      obtain ⟨z0, z1⟩ := hcA kv hkn
      have r0 := old_cell HE.out HR0.out
      have hin : btw (kv : Int) 0 ((L.length : Int) - 1) = true := btw_iff.2 (by omega)
      subst hB hA
      clear hcA hcB hkv
      go_wp2_with fail
      have hw1 : IntKind.i64.wrap ((L.length : Int) - 1) = (L.length : Int) - 1 := IntWalk.i64_in _ (by omega)
      (refine wp_region_calm (by kernel_rfl) (by kernel_rfl) ?_; (repeat (go_big_quiet_step ((first | (go_at_call 74; exact (gives_b hin (l01In_any _ _ _ _)).calm) | (go_at_call 45; exact (HRO.out _ (HE.out.trans (by repeat (first | exact Ext.refl _ | refine Ext.alloc ?_ _ | assumption | refine Ext.over ?_ _ | refine Ext.drew ?_ | refine Ext.drewN ?_ _)))).calm))))); refine wpQuiet_nil ?_; rintro w1 ⟨x1, rfl⟩)
      have HE1 := hid (HE.out.trans (show Ext wr (ovr wr x1) by repeat (first | exact Ext.refl _ | refine Ext.alloc ?_ _ | assumption | refine Ext.over ?_ _ | refine Ext.drew ?_ | refine Ext.drewN ?_ _)))
      have HO1 := hid (own_ext HO.out (show Ext wr (ovr wr x1) by repeat (first | exact Ext.refl _ | refine Ext.alloc ?_ _ | assumption | refine Ext.over ?_ _ | refine Ext.drew ?_ | refine Ext.drewN ?_ _)))
      have y0 := old_cell (show Ext wr (ovr wr x1) by repeat (first | exact Ext.refl _ | refine Ext.alloc ?_ _ | assumption | refine Ext.over ?_ _ | refine Ext.drew ?_ | refine Ext.drewN ?_ _)) y0
      have z0 := old_cell (show Ext wr (ovr wr x1) by repeat (first | exact Ext.refl _ | refine Ext.alloc ?_ _ | assumption | refine Ext.over ?_ _ | refine Ext.drew ?_ | refine Ext.drewN ?_ _)) z0
      have z1 := old_cell (show Ext wr (ovr wr x1) by repeat (first | exact Ext.refl _ | refine Ext.alloc ?_ _ | assumption | refine Ext.over ?_ _ | refine Ext.drew ?_ | refine Ext.drewN ?_ _)) z1
      have r0 := old_cell (show Ext wr (ovr wr x1) by repeat (first | exact Ext.refl _ | refine Ext.alloc ?_ _ | assumption | refine Ext.over ?_ _ | refine Ext.drew ?_ | refine Ext.drewN ?_ _)) r0
      generalize ovr wr x1 = wu at HE1 HO1 y0 z0 z1 r0 ⊢
      have hg1 := HO1.out.lt go rfl
      have hb1 : ¬ b1 = go := by
        obtain ⟨b', off', e, hc'⟩ := HK.out.at_ (j := k) (by rw [vl_len]; exact hlt)
        cases e
        have := World.block_lt_of_cell? w0 _ (hc' k _ (by unfold vl; rw [List.getElem?_map, List.getElem?_eq_getElem hlt]; rfl))
        show ¬ b1 = go
        have h2 : b1 < w0.heap.size := this
        omega
      have hb2 : ¬ b2 = go := by
        obtain ⟨b', off', e, hc'⟩ := HL.out.t2 hkn
        cases e
        have := World.block_lt_of_cell? w0 _ (hc' kv hkn).1
        have h2 : b2 < w0.heap.size := this
        omega
      have hb3 : ¬ w.heap.size = go := by omega
      clear HO HE hin hw1
      go_wp2_with fail
      refine wp_region_r (LaterG go go) (laterG_steady _ _) [.q 0, .q 1, .q 2, .q 3, .q 4, .q 5, .q 6, .q 7, .q 8, .u 9, .u 10, .u 11] (by kernel_rfl) (by kernel_rfl) (fun w1 e1 => ?_)
      have e1' : Ext wu w1 := Ext.trans (by repeat (first | exact Ext.refl _ | refine Ext.alloc ?_ _ | assumption | refine Ext.over ?_ _ | refine Ext.drew ?_ | refine Ext.drewN ?_ _)) e1
      have y0 := old_cell e1' y0
      have z0 := old_cell e1' z0
      have z1 := old_cell e1' z1
      have r0 := old_cell e1' r0
      have E1 := hid e1'
      clear e1 e1'
      simp only [pick, List.getElem?_cons_succ, List.getElem?_cons_zero]
      repeat (refine wpR_q (fun K hK => ?_); go_simp; refine hK _ ?_; clear hK K)
      refine wpR_u ?_
      refine stepH_of (fun K hK => ?_)
      go_simp
      refine hK _ _ (laterG_of (Kept.of_ext (Ext.alloc (Ext.refl _) _))) ?_; clear hK K
      refine wpR_u ?_
      refine stepH_of (fun K hK => ?_)
      rw [if_pos (by rfl)]
      refine her_push w0 (.tmp 30) (.tmp 39) 31 rfl 35 Try.underlying31 info_PointC rfl (by decide) _ k ((ptsL L (ks.take k)).flatMap T2.v) rfl (own_ext HO1.out (E1.out.trans (by repeat (first | exact Ext.refl _ | refine Ext.alloc ?_ _ | assumption | refine Ext.over ?_ _ | refine Ext.drew ?_ | refine Ext.drewN ?_ _)))) ((HE1.out.trans E1.out).trans (by repeat (first | exact Ext.refl _ | refine Ext.alloc ?_ _ | assumption | refine Ext.over ?_ _ | refine Ext.drew ?_ | refine Ext.drewN ?_ _))) _ 1 1 [.int .i64 (at2 L kv).a, .int .i64 (at2 L kv).b] rfl rfl (lit_cells _ _ rfl _ _) (by intro u hu; simp at hu; rcases hu with rfl | rfl <;> rfl) (by omega) (by omega) (by decide) ?_
      intro g2 cap w5 hown5 he5 hg5
      refine hK _ _ (laterG_of (kept_row (g := go) hg5 (fun i hi => by have h : some go = some i := hi; exact (Option.some.inj h).symm))) ?_; clear hK K
      have HO5 := hid (show w5.ownsRow w0.heap.size 35 2 (.slice (some ⟨g2, 0, none⟩) (k + 1) cap) (k + 1) ((ptsL L (ks.take (k + 1))).flatMap T2.v) by rw [HT.out, List.flatMap_append]; exact hown5)
      have HE5 := hid he5
      clear hown5 he5 hg5 y0 z0 z1 r0 HO1 E1 HE1
      ((first | refine wpR_u ?_ | skip); refine stepH_of (fun K hK => ?_); go_simp; refine hK _ _ (laterG_of (Kept.refl _ _ _)) ?_; clear hK K)
      refine wpR_nil ?_
      go_wp2_with fail
      go_roundw
      case rel => exact ⟨k + 1, g2, cap, by omega, by go_num, rfl, own_ext HO5.out (by repeat (first | exact Ext.refl _ | refine Ext.alloc ?_ _ | assumption | refine Ext.over ?_ _ | refine Ext.drew ?_ | refine Ext.drewN ?_ _)), HE5.out.trans (by repeat (first | exact Ext.refl _ | refine Ext.alloc ?_ _ | assumption | refine Ext.over ?_ _ | refine Ext.drew ?_ | refine Ext.drewN ?_ _))⟩
      case measure => simp [intOf]; omega
    · obtain rfl : k = ks.length := by omega
      have HT := hid (show ptsL L (ks.take ks.length) = ptsL L ks by rw [List.take_length])
      go_wp2_with fail
      go_ret
      refine ⟨go, c', rfl, ?_, HE0.out.trans HE.out⟩
      rw [← HT.out]
      exact own_base HO.out (by omega)
end Go.Proofs.Ytkifapcegiajiaa
