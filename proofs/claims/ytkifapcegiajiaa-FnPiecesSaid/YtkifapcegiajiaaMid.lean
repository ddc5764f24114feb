/- Walks: doubled points, middles of ways. Conditions: at most 1048577 corners. -/
import Derived.Test.YtkifapcegiajiaaFloor
import Derived.Test.YtkifapcegiajiaaSight
namespace Go.Proofs.Ytkifapcegiajiaa
open Go.RowKit
set_option linter.unusedVariables false

theorem twice_any (p : T2) (w : World) : Gives Try.prog 92 #[ptV p] w (ptV (dbl p)) := by
  unfold ptV
  (unfold Gives; go_enter Try.func92, Try.ntmps92)
  go_wp2_with fail
  refine bodyPost_ret (v := .agg #[.int .i64 (dbl p).a, .int .i64 (dbl p).b]) (by simp [results, Try.results92, go_sem, dbl]) rfl ⟨rfl, ?_⟩
  repeat (first | exact Ext.refl _ | refine Ext.alloc ?_ _ | assumption | refine Ext.over ?_ _ | refine Ext.drew ?_ | refine Ext.drewN ?_ _)
theorem doubled_any (p : T2) (w : World) : Gives Try.prog 60 #[ptV p] w (ptV (dbl p)) := by
  unfold ptV
  (unfold Gives; go_enter Try.func60, Try.ntmps60)
  go_wp2_with fail
  refine bodyPost_ret (v := .agg #[.int .i64 (dbl p).a, .int .i64 (dbl p).b]) (by simp [results, Try.results60, go_sem, dbl]) rfl ⟨rfl, ?_⟩
  repeat (first | exact Ext.refl _ | refine Ext.alloc ?_ _ | assumption | refine Ext.over ?_ _ | refine Ext.drew ?_ | refine Ext.drewN ?_ _)
theorem dblL_at {L : List T2} {k : Nat} (h : k < L.length) : (dblL L)[k]? = some (dbl (at2 L k)) := by
  unfold dblL; rw [List.getElem?_map, List.getElem?_eq_getElem h, at2_eq L k h]; rfl
theorem dblL_take {L : List T2} {k : Nat} (h : k < L.length) : (dblL L).take (k + 1) = (dblL L).take k ++ [dbl (at2 L k)] := by
  rw [List.take_add_one, dblL_at h]; rfl
set_option maxHeartbeats 3200000 in
set_option maxRecDepth 100000 in
theorem middle_any (A : Option Addr) (n c : Nat) (L : List T2) (p q : T2) (w : World) (hl : Row w A (L.flatMap T2.v)) (hn : L.length = n) (hx : n ≤ 1048577) : Gives Try.prog 68 #[.agg #[.slice A n c], ptV p, ptV q] w (.int .i64 (placeI (dblL L) (midP p q))) := by
  subst hn
  have HL := hid hl
  clear hl
  have HV := hid (show midP p q = ⟨wrap64 (p.a + q.a), wrap64 (p.b + q.b)⟩ from rfl)
  unfold ptV
  (unfold Gives; go_enter Try.func68, Try.ntmps68)
  go_wp2_with fail
  obtain ⟨wt, hwt⟩ : ∃ wt, wt = ((w.alloc (.cells #[.slice A L.length c] 33)).alloc (.cells #[.int .i64 p.a, .int .i64 p.b] 35)).alloc (.cells #[.int .i64 q.a, .int .i64 q.b] 35) := ⟨_, rfl⟩
  have het : Ext w wt := by rw [hwt]; repeat (first | exact Ext.refl _ | refine Ext.alloc ?_ _ | assumption | refine Ext.over ?_ _ | refine Ext.drew ?_ | refine Ext.drewN ?_ _)
  have b0 : wt.cell? ⟨w.heap.size, 0, none⟩ = some (.slice A L.length c) := by rw [hwt]; go_simp
  have b1 : wt.cell? ⟨w.heap.size + 1, 0, none⟩ = some (.int .i64 p.a) := by rw [hwt]; go_simp
  have b2 : wt.cell? ⟨w.heap.size + 1, 1, none⟩ = some (.int .i64 p.b) := by rw [hwt]; go_simp
  have b3 : wt.cell? ⟨w.heap.size + 1 + 1, 0, none⟩ = some (.int .i64 q.a) := by rw [hwt]; go_simp
  have b4 : wt.cell? ⟨w.heap.size + 1 + 1, 1, none⟩ = some (.int .i64 q.b) := by rw [hwt]; go_simp
  have HT := hid het
  have hsz : w.heap.size + 1 + 1 + 1 = wt.heap.size := by rw [hwt]; simp
  rw [← hwt]
  generalize w.heap.size = gr at b0 b1 b2 b3 b4 hsz ⊢
  have HSZ := hid hsz
  clear hwt het hsz
  go_loopw [7, 14] (fun ov kv wr => ∃ (k : Nat) (A' : Option Addr) (c' : Nat), k ≤ L.length ∧ kv = .int .i64 ↑k ∧ ov = .slice A' k c' ∧ wr.ownsRow wt.heap.size 35 2 (.slice A' k c') k (((dblL L).take k).flatMap T2.v) ∧ Ext wt wr) (fun _ kv _ => L.length - (intOf kv).toNat)
  case atStart => exact ⟨0, _, _, by omega, rfl, rfl, own_empty wt _ _ HSZ.out (Nat.le_refl _) _ _, by repeat (first | exact Ext.refl _ | refine Ext.alloc ?_ _ | assumption | refine Ext.over ?_ _ | refine Ext.drew ?_ | refine Ext.drewN ?_ _)⟩
  case round =>
    obtain ⟨k, A', c', hk, rfl, rfl, hown, he⟩ := hrel
    have HO := hid hown
    have HE := hid he
    have HX := hid (HT.out.trans he)
    have r0 := old_cell he b0
    have r1 := old_cell he b1
    have r2 := old_cell he b2
    have r3 := old_cell he b3
    have r4 := old_cell he b4
    clear hown he
    by_cases hlt : k < L.length
    · obtain ⟨b, off, hA, hc⟩ := (HL.out.ext HX.out).t2 hlt
      obtain ⟨c1, c2⟩ := hc k hlt
      have HS := hid (show ((dblL L).take (k + 1)).flatMap T2.v = ((dblL L).take k).flatMap T2.v ++ [.int .i64 (dbl (at2 L k)).a, .int .i64 (dbl (at2 L k)).b] by rw [dblL_take hlt, List.flatMap_append]; rfl)
      have hown := HO.out
      generalize ((dblL L).take k).flatMap T2.v = cs at hown HS
      have HO3 := hid hown
      subst hA
      generalize at2 L k = a at c1 c2 HS
      clear hc hown HO
      go_wp2_with (first | (go_at_call 92; refine (show Gives Try.prog _ _ _ (.agg #[.int .i64 (dbl a).a, .int .i64 (dbl a).b]) from twice_any a _).over.mono ?_; rintro e w' ⟨rfl, xw, rfl⟩) | (at_builtin; refine wpList_push wt rfl (.tmp 18) (.tmp 21) 31 rfl 35 Try.underlying31 info_Point rfl (by decide) _ k cs rfl wr HO3.out (by repeat (first | exact Ext.refl _ | refine Ext.alloc ?_ _ | assumption | refine Ext.over ?_ _ | refine Ext.drew ?_ | refine Ext.drewN ?_ _)) (Ext.trans HE.out (by repeat (first | exact Ext.refl _ | refine Ext.alloc ?_ _ | assumption | refine Ext.over ?_ _ | refine Ext.drew ?_ | refine Ext.drewN ?_ _))) _ 1 1 [.int .i64 (dbl a).a, .int .i64 (dbl a).b] rfl rfl (lit_cells _ _ (by first | (simp; done) | simp [ovr_size]) _ _) (by intro u hu; simp at hu; rcases hu with rfl | rfl <;> rfl) (by omega) (by decide) ?_))
      intro A5 c5 w5 hown5 he5
      have HO5 := hid (show w5.ownsRow wt.heap.size 35 2 (.slice A5 (k + 1) c5) (k + 1) (((dblL L).take (k + 1)).flatMap T2.v) by rw [HS.out]; exact hown5)
      have HE5 := hid he5
      clear hown5 he5 c1 c2
      go_wp2_with fail
      go_roundw
      case rel => exact ⟨k + 1, A5, c5, by omega, by go_num, rfl, own_ext HO5.out (by repeat (first | exact Ext.refl _ | refine Ext.alloc ?_ _ | assumption | refine Ext.over ?_ _ | refine Ext.drew ?_ | refine Ext.drewN ?_ _)), HE5.out.trans (by repeat (first | exact Ext.refl _ | refine Ext.alloc ?_ _ | assumption | refine Ext.over ?_ _ | refine Ext.drew ?_ | refine Ext.drewN ?_ _))⟩
      case measure => simp [intOf]; omega
    · obtain rfl : k = L.length := by omega
      have HR := hid (Row.of_own HO.out)
      have HTK := hid (show (dblL L).take L.length = dblL L from List.take_of_length_le (by simp [dblL]))
      rw [HTK.out] at HR
      go_wp2_with (go_at_call 62; refine (place_any _ _ _ (dblL L) ⟨wrap64 (p.a + q.a), wrap64 (p.b + q.b)⟩ _ (HR.out.ext (by repeat (first | exact Ext.refl _ | refine Ext.alloc ?_ _ | assumption | refine Ext.over ?_ _ | refine Ext.drew ?_ | refine Ext.drewN ?_ _))) (by simp [dblL]) hx).over.mono ?_; rintro e w' ⟨rfl, xw, rfl⟩)
      go_ret
      exact ⟨by rw [HV.out]; rfl, HX.out.trans (by repeat (first | exact Ext.refl _ | refine Ext.alloc ?_ _ | assumption | refine Ext.over ?_ _ | refine Ext.drew ?_ | refine Ext.drewN ?_ _))⟩
end Go.Proofs.Ytkifapcegiajiaa
