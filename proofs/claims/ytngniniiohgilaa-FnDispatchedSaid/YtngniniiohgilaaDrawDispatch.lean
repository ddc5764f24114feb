/- Walks: DrawDispatch. Conditions: sizes. -/
import Derived.Test.YtngniniiohgilaaDrawPlaces
namespace Go.Proofs.Ytngniniiohgilaa
open Go.RowKit
set_option linter.unusedVariables false

set_option maxRecDepth 100000 in
set_option maxHeartbeats 1600000 in
theorem DrawDispatch_any (A : Option Addr) (n c : Nat) (bs : List Int) (w : World) (hl : Row w A (bs.map (Value.int .u8))) (hn : bs.length = n) (hx : n ≤ 1048576) (hz : ∀ z ∈ bs, 0 ≤ z ∧ z ≤ 255) :
    Calls Try.prog 23 #[.slice A n c] w fun en w' => ∃ (h m c : Nat) (A' : Option Addr) (l : List T2) (B : Option Addr) (c2 : Nat) (gs : List Int) (E : Option Addr) (r c3 : Nat) (hs : List Int), en = .returned (.tuple #[.agg #[.int .i64 h, .slice A' m c], .slice B 5 c2, .slice E r c3]) ∧ houseOk h l = true ∧ w'.ownsRow w.heap.size 66 2 (.slice A' m c) m (l.flatMap T2.v) ∧ l.length = m ∧ gs.length = 5 ∧ InH h gs ∧ w'.ownsRow w.heap.size 3 1 (.slice B 5 c2) 5 (gs.map (Value.int .i64)) ∧ hs.length = r ∧ r ≤ 4 ∧ InH h hs ∧ w'.ownsRow w.heap.size 3 1 (.slice E r c3) r (hs.map (Value.int .i64)) ∧ Ext w w' := by
  have HZ := hid hz
  clear hz
  go_enter Try.func23, Try.ntmps23
  go_wp2_with fail
  refine (l01New_any A n c bs _ (hl.ext (by repeat (first | exact Ext.refl _ | refine Ext.alloc ?_ _ | assumption | refine Ext.over ?_ _ | refine Ext.drew ?_ | refine Ext.drewN ?_ _))) hn hx HZ.out).mono ?_
  rintro _ w1 ⟨g, rfl, hg, hc, he⟩
  have hg1 : w.heap.size + 1 ≤ g := by simpa using hg
  have HC := hid hc
  have hgl := hc.lt
  have HR := hid (show Res w1 w.heap.size from (show Res (w.alloc (.cells #[.int .i64 0, .slice none 0 0] 26)) w.heap.size from ⟨⟨.int .i64 0, by go_simp⟩, ⟨.slice none 0 0, by go_simp⟩, by go_simp, by go_simp⟩).blk (he.block _ (by simp)))
  have HE := hid (Ext.trans (show Ext w _ by repeat (first | exact Ext.refl _ | refine Ext.alloc ?_ _ | assumption | refine Ext.over ?_ _ | refine Ext.drew ?_ | refine Ext.drewN ?_ _)) he)
  clear hc he hg
  go_wp2_with fail
  refine (l23House_any g w1 HC.out).mono ?_
  rintro _ w2 ⟨h, m, c', D, l, rfl, hok, ho, hlm, hd⟩
  obtain ⟨_, h1, h7, _⟩ := houseOk_bounds hok
  have HOK := hid hok
  have HO := hid ho
  have HD := hid hd
  have HR2 := hid (HR.out.blk (hd.1.block _ HR.out.lt (by intro e; injection e with e; omega)))
  have HL := hid hlm
  have hsz := HE.out.size
  have hsz2 := hd.size
  clear hok ho hd HR HC hlm
  go_wp2_with fail
  have hg2 : g < w2.heap.size := by omega
  have hw2 : w.heap.size < w2.heap.size := by omega
  obtain ⟨gt, hgt⟩ : ∃ gt, gt = w2.heap.size := ⟨_, rfl⟩
  obtain ⟨wt, hwt⟩ : ∃ wt, wt = w2.alloc (.cells #[.int .i64 ↑h, .slice D m c'] 26) := ⟨_, rfl⟩
  have c0 : wt.cell? ⟨gt, 0, none⟩ = some (.int .i64 ↑h) := by rw [hwt, hgt]; go_simp
  have c1 : wt.cell? ⟨gt, 1, none⟩ = some (.slice D m c') := by rw [hwt, hgt]; go_simp
  have HST := hid (show gt + 1 = wt.heap.size by rw [hwt, hgt]; simp)
  have et : Ext w2 wt := by rw [hwt]; repeat (first | exact Ext.refl _ | refine Ext.alloc ?_ _ | assumption | refine Ext.over ?_ _ | refine Ext.drew ?_ | refine Ext.drewN ?_ _)
  have hne1 : ¬ gt = g := by omega
  have hne2 : ¬ gt = w.heap.size := by omega
  have hgr : g ≠ w.heap.size := by omega
  have hgw : g < gt := by omega
  have hww : w.heap.size < gt := by omega
  have HDT := hid (HD.out.ext et)
  have HRT := hid (HR2.out.blk (et.block _ HR2.out.lt))
  have HOT := hid (own_ext HO.out et)
  rw [← hwt, ← hgt]
  have hs12 : w1.heap.size ≤ gt := by omega
  clear HD HR2 HO et hwt hgt hsz2 hg2 hw2 w2
  go_loopw [7, 8] (fun bv kv wr => ∃ (k : Nat) (A : Option Addr) (c' : Nat) (gs : List Int), k ≤ 5 ∧ kv = .int .i64 ↑k ∧ bv = .slice A k c' ∧ gs.length = k ∧ InH h gs ∧ wr.ownsRow wt.heap.size 3 1 (.slice A k c') k (gs.map (Value.int .i64)) ∧ Drawn wt wr g) (fun _ kv _ => 5 - (intOf kv).toNat)
  case atStart => exact ⟨0, _, _, [], by omega, rfl, rfl, rfl, (fun k hk => by cases hk), own_empty _ _ _ HST.out (Nat.le_refl _) _ _, ⟨ext_grown (show Ext wt _ by repeat (first | exact Ext.refl _ | refine Ext.alloc ?_ _ | assumption | refine Ext.over ?_ _ | refine Ext.drew ?_ | refine Ext.drewN ?_ _)) (some g), HDT.out.2.ext (by repeat (first | exact Ext.refl _ | refine Ext.alloc ?_ _ | assumption | refine Ext.over ?_ _ | refine Ext.drew ?_ | refine Ext.drewN ?_ _))⟩⟩
  case round =>
  obtain ⟨k, B, cb, gs, hk, rfl, rfl, hgn, hin, hown, hd⟩ := hrel
  have HG := hid hown
  have HD := hid hd
  have HI := hid hin
  have HGL := hid hgn
  have hlb : g < wt.heap.size := by have := HST.out; omega
  have hgtb : gt < wt.heap.size := by have := HST.out; omega
  have d0 : wr.cell? ⟨gt, 0, none⟩ = some (.int .i64 ↑h) := (hd.cell (p := ⟨gt, 0, none⟩) hgtb hne1).trans c0
  have d1 : wr.cell? ⟨gt, 1, none⟩ = some (.slice D m c') := (hd.cell (p := ⟨gt, 1, none⟩) hgtb hne1).trans c1
  clear hown hd hin hgn c0 c1
  by_cases hlt : k < 5
  · go_wp2_with fail
    refine (l01Below_any g h _ HD.out.2 (by omega)).mono ?_
    rintro _ w3 ⟨v, rfl, v0, v1, hd⟩
    have HD3 := hid (HD.out.trans hd)
    have HO3 := hid (hd.own HG.out hlb)
    have hv : v < h := by omega
    clear hd
    go_wp2_with (at_builtin; refine wpList_pushG rfl (.tmp 18) (.tmp 23) 31 rfl 3 Try.underlying31 info_int rfl (by decide) wt.heap.size _ k _ _ rfl w3 HO3.out (by repeat (first | exact Ext.refl _ | refine Ext.alloc ?_ _ | assumption | refine Ext.over ?_ _ | refine Ext.drew ?_ | refine Ext.drewN ?_ _)) HD3.out.size _ 1 1 [.int .i64 v] rfl rfl (lit_cells _ _ (by first | (simp; done) | simp [ovr_size]) _ _) (by intro u hu; simp at hu; subst hu; rfl) (by omega) (by decide) ?_)
    intro A4 c4 w4 hown4 hg4
    have HO4 := hid (show w4.ownsRow wt.heap.size 3 1 (.slice A4 (k + 1) c4) (k + 1) ((gs ++ [v]).map (Value.int .i64)) by rw [List.map_append]; exact hown4)
    have HD4 := hid (HD3.out.grown hg4 hlb (fun j hj => (HO3.out.lt j hj).1))
    clear hown4 hg4 HO3 HD3 d0 d1
    go_wp2_with fail
    go_roundw
    case rel => exact ⟨k + 1, A4, c4, gs ++ [v], by omega, by go_num, rfl, by rw [List.length_append, HGL.out]; rfl, inH_app HI.out v0 hv, HO4.out, HD4.out⟩
    case measure => simp [intOf]; omega
  obtain rfl : k = 5 := by omega
  have HDW := hid (HDT.out.trans HD.out)
  have HRW := hid (HRT.out.blk (HD.out.1.block _ HRT.out.lt (by intro e; injection e with e; omega)))
  have HOW := hid (HD.out.own HOT.out hgl)
  have hgb : g < wt.heap.size := hlb
  have hst : gt + 1 ≤ wt.heap.size := hgtb
  clear HDT HRT HOT HD
  go_wp2_with fail
  refine wp_region_r (LaterG g w.heap.size) (laterG_steady _ _) [.q 0, .q 1, .q 2, .q 3, .u 4, .u 5, .u 6, .u 7] (by kernel_rfl) (by kernel_rfl) (fun w3 e3 => ?_)
  have c0 : w3.cell? ⟨gt, 0, none⟩ = some (.int .i64 ↑h) := old_cell e3 d0
  have c1 : w3.cell? ⟨gt, 1, none⟩ = some (.slice D m c') := old_cell e3 d1
  have HD3 := hid (HDW.out.ext e3)
  have HR3 := hid (HRW.out.blk (e3.block _ HRW.out.lt))
  have HO3 := hid (own_ext HOW.out e3)
  have HG3 := hid (own_ext HG.out e3)
  clear HDW HRW HOW HG e3 d0 d1
  simp only [pick, List.getElem?_cons_succ, List.getElem?_cons_zero]
  repeat (refine wpR_q (fun K hK => ?_); go_simp; refine hK _ ?_; clear hK K)
  refine wpR_u ?_
  refine stepH_of (fun K hK => ?_)
  go_simp
  refine (l31Places_any g h m c' 4 D w3 HD3.out.2 (by omega) (by omega) (by omega)).mono ?_
  rintro _ w5 ⟨E, r, ce, hs, rfl, hol, hr4, hbo, hob, hd5⟩
  refine ⟨_, rfl, hK _ _ (laterG_of (Kept.grown hd5.1)) ?_⟩; clear hK K
  have HBO := hid hbo
  have HOL := hid hol
  have HOB := hid hob
  have h3s := HD3.out.1.size
  have HD5 := hid (HD3.out.trans hd5)
  have HR5 := hid (HR3.out.blk (hd5.1.block _ HR3.out.lt (by intro e; injection e with e; omega)))
  have HO5 := hid (hd5.own HO3.out hgl)
  have HG5 := hid (hd5.own HG3.out hgb)
  clear hd5 HD3 HR3 HO3 HG3 c0 c1 hbo hol hob
  obtain ⟨⟨r0, hr0⟩, ⟨r1, hr1⟩, rf0, rf1⟩ := HR5.out
  refine wpR_u ?_
  refine stepH_of (fun K hK => ?_)
  go_simp
  have hgrow : w5.grownBy ((w5.setCell ⟨w.heap.size, 0, none⟩ (.int .i64 ↑h)).setCell ⟨w.heap.size, 1, none⟩ (.slice D m c')) (some w.heap.size) := only_setCell (g := w.heap.size) (p := ⟨w.heap.size, 1, none⟩) (only_setCell (g := w.heap.size) (p := ⟨w.heap.size, 0, none⟩) (World.grownBy.refl _ _) (.inl rfl) _) (.inl rfl) _
  refine hK _ _ (laterG_of (Kept.grown' hgrow)) ?_; clear hK K
  have HO6 := hid (HO5.out.kept hgrow (.inr fun e => by have := (HO5.out.lt _ e).1; omega))
  have HE6 := hid (show Ext w _ from ((HD5.out.out HE.out (by omega)).setCell (p := ⟨w.heap.size, 0, none⟩) (Nat.le_refl _) (.int .i64 ↑h)).setCell (p := ⟨w.heap.size, 1, none⟩) (Nat.le_refl _) (.slice D m c'))
  have HOB6 := hid (HOB.out.kept hgrow (.inr fun e => by have := (HOB.out.lt _ e).1; omega))
  have HG6 := hid (HG5.out.kept hgrow (.inr fun e => by have := (HG5.out.lt _ e).1; omega))
  clear HD5 HR5 HO5 HG5 hgrow HOB
  ((first | refine wpR_u ?_ | skip); refine stepH_of (fun K hK => ?_); go_simp; refine hK _ _ (laterG_of (Kept.refl _ _ _)) ?_; clear hK K)
  ((first | refine wpR_u ?_ | skip); refine stepH_of (fun K hK => ?_); go_simp; refine hK _ _ (laterG_of (Kept.refl _ _ _)) ?_; clear hK K)
  refine wpR_nil ?_
  go_wp2_with fail
  refine bodyPost_ret (v := .tuple #[.agg #[.int .i64 h, .slice D m c'], .slice B 5 cb, .slice E r ce]) (by first | (simp [results, Try.results23, go_sem]; done) | (unfold results; rw [Try.results23]; go_simp)) rfl ?_
  exact ⟨h, m, c', D, l, B, cb, gs, E, r, ce, hs, rfl, HOK.out, own_base HO6.out hsz, HL.out, HGL.out, HI.out, own_base HG6.out (by omega), HOL.out, hr4, HBO.out, own_base HOB6.out (by omega), HE6.out⟩
end Go.Proofs.Ytngniniiohgilaa
