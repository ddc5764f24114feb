/- Walks: DrawHouse. Conditions: sizes. -/
import Derived.Test.YtngniniiohgilaaDrawH
import Derived.Test.YtngniniiohgilaaHer5
namespace Go.Proofs.Ytngniniiohgilaa
open Go.RowKit
set_option linter.unusedVariables false

set_option maxRecDepth 100000 in
set_option maxHeartbeats 1600000 in
theorem DrawHouse_any (A : Option Addr) (n c : Nat) (bs : List Int) (w : World) (hl : Row w A (bs.map (Value.int .u8))) (hn : bs.length = n) (hx : n ≤ 1048576) (hz : ∀ z ∈ bs, 0 ≤ z ∧ z ≤ 255) :
    Calls Try.prog 8 #[.slice A n c] w fun en w' => ∃ (h m c : Nat) (A' : Option Addr) (l : List T2) (a b : Nat), en = .returned (.tuple #[.agg #[.int .i64 h, .slice A' m c], .int .i64 a, .int .i64 b]) ∧ houseOk h l = true ∧ w'.ownsRow w.heap.size 66 2 (.slice A' m c) m (l.flatMap T2.v) ∧ l.length = m ∧ a < h ∧ b < h ∧ Ext w w' := by
  have HZ := hid hz
  clear hz
  go_enter Try.func8, Try.ntmps8
  go_wp2_with fail
  refine (l01New_any A n c bs _ (hl.ext (by repeat (first | exact Ext.refl _ | refine Ext.alloc ?_ _ | assumption | refine Ext.over ?_ _ | refine Ext.drew ?_ | refine Ext.drewN ?_ _))) hn hx HZ.out).mono ?_
  rintro _ w1 ⟨g, rfl, hg, hc, he⟩
  have hg1 : w.heap.size + 1 ≤ g := by simpa using hg
  have HC := hid hc
  have hgl := hc.lt
  have HR := hid (show Res w1 w.heap.size from (show Res (w.alloc (.cells #[.int .i64 0, .slice none 0 0] 26)) w.heap.size from ⟨⟨.int .i64 0, by go_simp⟩, ⟨.slice none 0 0, by go_simp⟩, by go_simp, by go_simp⟩).blk (he.block _ (by simp)))
  have HE := hid (Ext.trans (show Ext w _ by repeat (first | exact Ext.refl _ | refine Ext.alloc ?_ _ | assumption | refine Ext.over ?_ _ | refine Ext.drew ?_ | refine Ext.drewN ?_ _)) he)
  clear hc he hg
  go_wp2_with fail
  refine (l23House_any g w1 HC.out).mono ?_
  rintro _ w2 ⟨h, m, c', D, l, rfl, hok, ho, hlm, hd⟩
  obtain ⟨_, h1, h7, _⟩ := houseOk_bounds hok
  have HOK := hid hok
  have HO := hid ho
  have HD := hid hd
  have HR2 := hid (HR.out.blk (hd.1.block _ HR.out.lt (by intro e; injection e with e; omega)))
  have HL := hid hlm
  have hsz := HE.out.size
  have hsz2 := hd.size
  clear hok ho hd HR HC hlm
  go_wp2_with fail
  refine wp_region_r (LaterG g w.heap.size) (laterG_steady _ _) [.q 0, .q 1, .q 2, .q 3, .q 5, .q 6, .q 7, .u 4, .u 8, .u 9, .u 10, .u 11] (by kernel_rfl) (by kernel_rfl) (fun w3 e3 => ?_)
  obtain ⟨gt, hgt⟩ : ∃ gt, gt = w2.heap.size := ⟨_, rfl⟩
  have e2 : Ext w2 w3 := Ext.trans (by repeat (first | exact Ext.refl _ | refine Ext.alloc ?_ _ | assumption | refine Ext.over ?_ _ | refine Ext.drew ?_ | refine Ext.drewN ?_ _)) e3
  have c0 : w3.cell? ⟨gt, 0, none⟩ = some (.int .i64 ↑h) := old_cell e3 (by rw [hgt]; go_simp)
  have c1 : w3.cell? ⟨gt, 1, none⟩ = some (.slice D m c') := old_cell e3 (by rw [hgt]; go_simp)
  have hne1 : ¬ gt = g := by omega
  have hne2 : ¬ gt = w.heap.size := by omega
  have hgr : g ≠ w.heap.size := by omega
  have HD3 := hid (HD.out.ext e2)
  have HR3 := hid (HR2.out.blk (e2.block _ HR2.out.lt))
  have HO3 := hid (own_ext HO.out e2)
  rw [← hgt]
  clear HD HR2 HO e2 e3 hgt hsz2
  simp only [pick, List.getElem?_cons_succ, List.getElem?_cons_zero]
  repeat (refine wpR_q (fun K hK => ?_); go_simp; refine hK _ ?_; clear hK K)
  refine wpR_u ?_
  refine stepH_of (fun K hK => ?_)
  go_simp
  refine (l01Below_any g h w3 HD3.out.2 (by omega)).mono ?_
  rintro _ w4 ⟨a, rfl, a0, a1, hd4⟩
  refine ⟨_, rfl, hK _ _ (laterG_of (Kept.grown hd4.1)) ?_⟩; clear hK K
  have HD4 := hid (HD3.out.trans hd4)
  have HR4 := hid (HR3.out.blk (hd4.1.block _ HR3.out.lt (by intro e; injection e with e; omega)))
  have HO4 := hid (hd4.own HO3.out hgl)
  clear hd4 HD3 HR3 HO3
  refine wpR_u ?_
  refine stepH_of (fun K hK => ?_)
  go_simp
  refine (l01Below_any g h w4 HD4.out.2 (by omega)).mono ?_
  rintro _ w5 ⟨b, rfl, b0, b1, hd5⟩
  refine ⟨_, rfl, hK _ _ (laterG_of (Kept.grown hd5.1)) ?_⟩; clear hK K
  have HD5 := hid (HD4.out.trans hd5)
  have HR5 := hid (HR4.out.blk (hd5.1.block _ HR4.out.lt (by intro e; injection e with e; omega)))
  have HO5 := hid (hd5.own HO4.out hgl)
  clear hd5 HD4 HR4 HO4 c0 c1
  obtain ⟨a, rfl⟩ : ∃ k : Nat, a = k := ⟨a.toNat, by omega⟩
  obtain ⟨b, rfl⟩ : ∃ k : Nat, b = k := ⟨b.toNat, by omega⟩
  obtain ⟨⟨r0, hr0⟩, ⟨r1, hr1⟩, rf0, rf1⟩ := HR5.out
  refine wpR_u ?_
  refine stepH_of (fun K hK => ?_)
  go_simp
  have hgrow : w5.grownBy ((w5.setCell ⟨w.heap.size, 0, none⟩ (.int .i64 ↑h)).setCell ⟨w.heap.size, 1, none⟩ (.slice D m c')) (some w.heap.size) := only_setCell (g := w.heap.size) (p := ⟨w.heap.size, 1, none⟩) (only_setCell (g := w.heap.size) (p := ⟨w.heap.size, 0, none⟩) (World.grownBy.refl _ _) (.inl rfl) _) (.inl rfl) _
  refine hK _ _ (laterG_of (Kept.grown' hgrow)) ?_; clear hK K
  have HO6 := hid (HO5.out.kept hgrow (.inr fun e => by have := (HO5.out.lt _ e).1; omega))
  have HE6 := hid (show Ext w _ from ((HD5.out.out HE.out (by omega)).setCell (p := ⟨w.heap.size, 0, none⟩) (Nat.le_refl _) (.int .i64 ↑h)).setCell (p := ⟨w.heap.size, 1, none⟩) (Nat.le_refl _) (.slice D m c'))
  clear HD5 HR5 HO5 hgrow
  ((first | refine wpR_u ?_ | skip); refine stepH_of (fun K hK => ?_); go_simp; refine hK _ _ (laterG_of (Kept.refl _ _ _)) ?_; clear hK K)
  ((first | refine wpR_u ?_ | skip); refine stepH_of (fun K hK => ?_); go_simp; refine hK _ _ (laterG_of (Kept.refl _ _ _)) ?_; clear hK K)
  refine wpR_nil ?_
  go_wp2_with fail
  refine bodyPost_ret (v := .tuple #[.agg #[.int .i64 h, .slice D m c'], .int .i64 a, .int .i64 b]) (by first | (simp [results, Try.results8, go_sem]; done) | (unfold results; rw [Try.results8]; go_simp)) rfl ?_
  exact ⟨h, m, c', D, l, a, b, rfl, HOK.out, own_base HO6.out hsz, HL.out, by omega, by omega, HE6.out⟩
end Go.Proofs.Ytngniniiohgilaa
