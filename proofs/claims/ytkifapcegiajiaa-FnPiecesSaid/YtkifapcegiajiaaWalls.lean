/- Walks: walls of a polygon, areas. Conditions: at most 1048577 corners. -/
import Derived.Test.YtkifapcegiajiaaMeet
import Derived.Test.YtkifapcegiajiaaPlace
import Derived.Test.YtkifapcegiajiaaHer5
namespace Go.Proofs.Ytkifapcegiajiaa
open Go.RowKit
set_option linter.unusedVariables false

structure W4 where
  p : T2
  q : T2
def W4.v (x : W4) : List Value := [.int .i64 x.p.a, .int .i64 x.p.b, .int .i64 x.q.a, .int .i64 x.q.b]
theorem W4.len (x : W4) : x.v.length = 4 := rfl
def wallAt (L : List T2) (i : Nat) : W4 := ⟨at2 L i, nxt L i⟩
def wallsL (L : List T2) (k : Nat) : List W4 := (List.range k).map (wallAt L)
theorem wallsL_len (L : List T2) (k : Nat) : (wallsL L k).length = k := by simp [wallsL]
theorem wallsL_succ (L : List T2) (k : Nat) : wallsL L (k + 1) = wallsL L k ++ [wallAt L k] := by simp [wallsL, List.range_succ]
theorem Row.w4 {w : World} {A : Option Addr} {L : List T2} {n : Nat} (h : Row w A ((wallsL L n).flatMap W4.v)) {i : Nat} (hi : i < n) :
    ∃ b off, A = some ⟨b, off, none⟩ ∧ ∀ i, i < n → w.cell? ⟨b, off + i * 4, none⟩ = some (.int .i64 (at2 L i).a) ∧ w.cell? ⟨b, off + i * 4 + 1, none⟩ = some (.int .i64 (at2 L i).b) ∧ w.cell? ⟨b, off + i * 4 + 2, none⟩ = some (.int .i64 (nxt L i).a) ∧ w.cell? ⟨b, off + i * 4 + 3, none⟩ = some (.int .i64 (nxt L i).b) := by
  obtain ⟨b, off, rfl, hc⟩ := h.at_ (j := i * 4) (by rw [flat_len _ 4 W4.len, wallsL_len]; omega)
  refine ⟨b, off, rfl, fun i hi => ?_⟩
  have hl : i < (wallsL L n).length := by rw [wallsL_len]; exact hi
  have he : (wallsL L n)[i] = wallAt L i := by simp [wallsL]
  refine ⟨?_, ?_, ?_, ?_⟩
  · have := hc (i * 4 + 0) (.int .i64 (at2 L i).a) (by rw [flat_get W4.v 4 W4.len _ i 0 hl (by omega), he]; rfl); simpa using this
  · have := hc (i * 4 + 1) (.int .i64 (at2 L i).b) (by rw [flat_get W4.v 4 W4.len _ i 1 hl (by omega), he]; rfl); simpa [Nat.add_assoc] using this
  · have := hc (i * 4 + 2) (.int .i64 (nxt L i).a) (by rw [flat_get W4.v 4 W4.len _ i 2 hl (by omega), he]; rfl); simpa [Nat.add_assoc] using this
  · have := hc (i * 4 + 3) (.int .i64 (nxt L i).b) (by rw [flat_get W4.v 4 W4.len _ i 3 hl (by omega), he]; rfl); simpa [Nat.add_assoc] using this
theorem own_block {w : World} {base n : Nat} {e : TypeId} {size : Nat} {v : Value} {cs : List Value} (h : w.ownsRow base e size v n cs) (hb : base < w.heap.size) : ∃ g, (∀ i, v.ownBlock = some i → i = g) ∧ base ≤ g ∧ g < w.heap.size := by
  cases hv : v.ownBlock with
  | none => exact ⟨base, fun i hi => (by cases hi), Nat.le_refl _, hb⟩
  | some g => exact ⟨g, fun i hi => by injection hi with hi; exact hi.symm, (h.lt g hv).1, (h.lt g hv).2⟩
theorem kept_row {w w' : World} {v : Value} {g : Nat} (h : w.grownBy w' v.ownBlock) (hg : ∀ i, v.ownBlock = some i → i = g) : Kept g g w w' :=
  ⟨h.os, h.tape, h.output, h.size, fun i hi h1 _ => h.block i hi (fun e => h1 (hg i e.symm))⟩
theorem info_Wall : (Try.prog.info? 88).map (fun i => (i.zero, i.size, i.bytes)) = some (some (.agg #[.int .i64 0, .int .i64 0, .int .i64 0, .int .i64 0]), 4, 32) := by kernel_rfl
set_option maxHeartbeats 1600000 in
set_option maxRecDepth 100000 in
theorem wallsOf_any (A : Option Addr) (n c : Nat) (L : List T2) (w : World) (hl : Row w A (L.flatMap T2.v)) (hn : L.length = n) (hx : n ≤ 1048577) :
    Calls Try.prog 65 #[.slice A n c] w fun en w' => ∃ B c', en = .returned (.slice B n c') ∧ w'.ownsRow w.heap.size 88 4 (.slice B n c') n ((wallsL L n).flatMap W4.v) ∧ Ext w w' := by
  subst hn
  have HL := hid hl
  clear hl
  go_enter Try.func65, Try.ntmps65
  go_wp2_with fail
  go_loopw [3, 9] (fun av kv wr => ∃ (k : Nat) (A' : Option Addr) (c' : Nat), k ≤ L.length ∧ kv = .int .i64 ↑k ∧ av = .slice A' k c' ∧ wr.ownsRow w.heap.size 88 4 (.slice A' k c') k ((wallsL L k).flatMap W4.v) ∧ Ext w wr ∧ w.heap.size < wr.heap.size) (fun _ kv _ => L.length - (intOf kv).toNat)
  case atStart => exact ⟨0, _, _, by omega, rfl, rfl, own_empty _ _ _ rfl (Nat.le_refl _) _ _, by repeat (first | exact Ext.refl _ | refine Ext.alloc ?_ _ | assumption | refine Ext.over ?_ _ | refine Ext.drew ?_ | refine Ext.drewN ?_ _), by simp⟩
  case round =>
    obtain ⟨k, A', c', hkl, rfl, rfl, hown, he, hsz⟩ := hrel
    have HO := hid hown
    have HE := hid he
    clear hown he
    by_cases hlt : k < L.length
    · have hnl := nx_lt hlt
      have hmod := nx_mod hlt
      obtain ⟨b, off, rfl, hc⟩ := (HL.out.ext HE.out).t2 hlt
      obtain ⟨c1, c2⟩ := hc k hlt
      obtain ⟨d1, d2⟩ := hc _ hnl
      rw [show at2 L (nx L.length k) = nxt L k from rfl] at d1 d2
      clear hc
      have HS := hid (show (wallsL L (k + 1)).flatMap W4.v = (wallsL L k).flatMap W4.v ++ [.int .i64 (at2 L k).a, .int .i64 (at2 L k).b, .int .i64 (nxt L k).a, .int .i64 (nxt L k).b] by rw [wallsL_succ, List.flatMap_append]; rfl)
      generalize nx L.length k = m at hnl hmod d1 d2
      generalize nxt L k = q at HS d1 d2
      generalize at2 L k = a at HS c1 c2
      go_wp2_with fail
      have hwr : IntKind.i64.wrap ((k : Int) + 1) = (k : Int) + 1 := IntWalk.i64_in _ (by omega)
      have hz0 : ¬ L = [] := fun e => by rw [e] at hlt; simp at hlt
      have hm1 : (m : Int) < L.length := by omega
      obtain ⟨g, hgo, hg1, hg2⟩ := own_block HO.out hsz
      have hbw : b < w.heap.size := by obtain ⟨b', off', e, hc'⟩ := HL.out.at_ (j := k * 2) (by rw [flat_len _ 2 T2.len]; omega); cases e; exact World.block_lt_of_cell? w _ (hc' (k * 2 + 0) _ (flat_get T2.v 2 T2.len L k 0 hlt (by omega)))
      have hb1 : ¬ b = g := by omega
      have hb2 : ¬ wr.heap.size = g := by omega
      have HGO := hid hgo
      clear hgo
      have c0 := (fresh_cells (w1 := wr) (cs := #[.int .i64 a.a, .int .i64 a.b]) (t := 35) (Ext.refl _) (j := 0) rfl).1
      have c3 := (fresh_cells (w1 := wr) (cs := #[.int .i64 a.a, .int .i64 a.b]) (t := 35) (Ext.refl _) (j := 1) rfl).1
      refine wp_region_r (LaterG g g) (laterG_steady _ _) [.q 0, .q 1, .q 2, .q 3, .q 4, .q 5, .q 6, .q 7, .q 8, .q 9, .q 10, .u 11, .u 12, .u 13] (by kernel_rfl) (by kernel_rfl) (fun w1 e1 => ?_)
      have d1 := old_cell e1 (show (wr.alloc (.cells #[.int .i64 a.a, .int .i64 a.b] 35)).cell? _ = _ from old_cell (by repeat (first | exact Ext.refl _ | refine Ext.alloc ?_ _ | assumption | refine Ext.over ?_ _ | refine Ext.drew ?_ | refine Ext.drewN ?_ _)) d1)
      have d2 := old_cell e1 (show (wr.alloc (.cells #[.int .i64 a.a, .int .i64 a.b] 35)).cell? _ = _ from old_cell (by repeat (first | exact Ext.refl _ | refine Ext.alloc ?_ _ | assumption | refine Ext.over ?_ _ | refine Ext.drew ?_ | refine Ext.drewN ?_ _)) d2)
      have c0 := old_cell e1 c0
      have c3 := old_cell e1 c3
      have E1 := hid (show Ext wr w1 from Ext.trans (by repeat (first | exact Ext.refl _ | refine Ext.alloc ?_ _ | assumption | refine Ext.over ?_ _ | refine Ext.drew ?_ | refine Ext.drewN ?_ _)) e1)
      have hs1 := E1.out.size
      clear e1
      simp only [pick, List.getElem?_cons_succ, List.getElem?_cons_zero]
      repeat (refine wpR_q (fun K hK => ?_); go_simp; refine hK _ ?_; clear hK K)
      refine wpR_u ?_
      refine stepH_of (fun K hK => ?_)
      go_simp
      refine hK _ _ (laterG_of (Kept.of_ext (Ext.alloc (Ext.refl _) _))) ?_; clear hK K
      refine wpR_u ?_
      refine stepH_of (fun K hK => ?_)
      rw [if_pos (by rfl)]
      refine her_push w (.tmp 14) (.tmp 25) 85 rfl 88 Try.underlying85 info_Wall rfl (by decide) _ k ((wallsL L k).flatMap W4.v) rfl (own_ext HO.out (E1.out.trans (by repeat (first | exact Ext.refl _ | refine Ext.alloc ?_ _ | assumption | refine Ext.over ?_ _ | refine Ext.drew ?_ | refine Ext.drewN ?_ _)))) ((HE.out.trans E1.out).trans (by repeat (first | exact Ext.refl _ | refine Ext.alloc ?_ _ | assumption | refine Ext.over ?_ _ | refine Ext.drew ?_ | refine Ext.drewN ?_ _))) _ 1 1 [.int .i64 a.a, .int .i64 a.b, .int .i64 q.a, .int .i64 q.b] rfl rfl (lit_cells _ _ rfl _ _) (by intro u hu; simp at hu; rcases hu with rfl | rfl | rfl | rfl <;> rfl) (by omega) (by omega) (by decide) ?_
      intro g2 cap w5 hown5 he5 hg5
      refine hK _ _ (laterG_of (kept_row hg5 HGO.out)) ?_; clear hK K
      have HO5 := hid (show w5.ownsRow w.heap.size 88 4 (.slice (some ⟨g2, 0, none⟩) (k + 1) cap) (k + 1) ((wallsL L (k + 1)).flatMap W4.v) by rw [HS.out]; exact hown5)
      have HE5 := hid he5
      have hs5 : w.heap.size < w5.heap.size := by have := hg5.size; simp at this; omega
      clear hown5 he5 hg5 c1 c2 d1 d2 c0 c3
      ((first | refine wpR_u ?_ | skip); refine stepH_of (fun K hK => ?_); go_simp; refine hK _ _ (laterG_of (Kept.refl _ _ _)) ?_; clear hK K)
      refine wpR_nil ?_
      go_wp2_with fail
      go_roundw
      case rel => exact ⟨k + 1, _, _, by omega, by go_num, rfl, own_ext HO5.out (by repeat (first | exact Ext.refl _ | refine Ext.alloc ?_ _ | assumption | refine Ext.over ?_ _ | refine Ext.drew ?_ | refine Ext.drewN ?_ _)), HE5.out.trans (by repeat (first | exact Ext.refl _ | refine Ext.alloc ?_ _ | assumption | refine Ext.over ?_ _ | refine Ext.drew ?_ | refine Ext.drewN ?_ _)), by simpa using hs5⟩
      case measure => simp [intOf]; omega
    · obtain rfl : k = L.length := by omega
      go_wp2_with fail
      refine bodyPost_ret (v := .slice A' L.length c') (by first | rfl | (simp [results, Try.results65, go_sem]; done)) rfl ?_
      exact ⟨A', c', rfl, HO.out, HE.out⟩
end Go.Proofs.Ytkifapcegiajiaa
