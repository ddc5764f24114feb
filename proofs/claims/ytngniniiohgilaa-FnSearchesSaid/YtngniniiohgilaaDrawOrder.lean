/- Walks: l24Order, DrawOrder. Conditions: sizes. -/
import Derived.Test.YtngniniiohgilaaDrawHouse
import Derived.Test.YtngniniiohgilaaSearchP
namespace Go.Proofs.Ytngniniiohgilaa
open Go.RowKit
set_option linter.unusedVariables false

theorem ci_range_succ (k : Nat) : ci (List.range (k + 1)) = ci (List.range k) ++ [(k : Int)] := by rw [List.range_succ, ci_app]
theorem beg_range (h : Nat) : Beg h (List.range h) := ⟨List.nodup_range, fun x hx => List.mem_range.1 hx⟩
theorem beg_swap {h i k : Nat} {o : List Nat} (hb : Beg h o) (hi : i < o.length) (hk : k < o.length) : Beg h ((o.set i o[k]).set k o[i]) :=
  have p := List.set_set_perm hi hk
  ⟨p.nodup_iff.2 hb.1, fun x hx => hb.2 x (p.mem_iff.1 hx)⟩
theorem ci_swap {i k : Nat} {o : List Nat} (hi : i < o.length) (hk : k < o.length) :
    (((ci o).map (Value.int .i64)).set i (.int .i64 (atI (ci o) k))).set k (.int .i64 (atI (ci o) i)) = (ci ((o.set i o[k]).set k o[i])).map (Value.int .i64) := by
  rw [ci_at hi, ci_at hk]
  unfold ci
  simp only [List.map_set]
theorem ci_cell {w : World} {base g n cap : Nat} {o : List Nat} (h : w.ownsRow base 3 1 (.slice (some ⟨g, 0, none⟩) n cap) n ((ci o).map (Value.int .i64))) (hl : o.length = n) {j : Nat} (hj : j < n) : w.cell? ⟨g, j, none⟩ = some (.int .i64 (atI (ci o) j)) := by
  rw [h.cellAt j (by omega), List.getElem?_map, List.getElem?_eq_getElem (by rw [ci_len]; omega), atI_eq _ _ (by rw [ci_len]; omega)]; rfl
set_option maxRecDepth 100000 in
set_option maxHeartbeats 1600000 in
theorem l24Order_any (g h m c : Nat) (D : Option Addr) (w : World) (hc : Cur w g) (h1 : 1 ≤ h) (h7 : h ≤ 7) : Calls Try.prog 52 #[.pointer (some ⟨g, 0, none⟩), .agg #[.int .i64 h, .slice D m c]] w fun en w' =>
    ∃ (A : Option Addr) (c' : Nat) (o : List Nat), en = .returned (.slice A h c') ∧ Beg h o ∧ o.length = h ∧ w'.ownsRow w.heap.size 3 1 (.slice A h c') h ((ci o).map (Value.int .i64)) ∧ Drawn w w' g := by
  have hlow := hc.lt
  have HC := hid hc
  clear hc
  go_enter Try.func52, Try.ntmps52
  go_wp2_with fail
  have p0 : (w.alloc (.cells #[.int .i64 ↑h, .slice D m c] 26)).cell? ⟨w.heap.size, 0, none⟩ = some (.int .i64 ↑h) := by go_simp
  obtain ⟨wb, hwb⟩ : ∃ wb, wb = w.alloc (.cells #[.int .i64 ↑h, .slice D m c] 26) := ⟨_, rfl⟩
  have HBS := hid (show w.heap.size + 1 = wb.heap.size by rw [hwb]; simp)
  have EB := hid (show Ext w wb by rw [hwb]; repeat (first | exact Ext.refl _ | refine Ext.alloc ?_ _ | assumption | refine Ext.over ?_ _ | refine Ext.drew ?_ | refine Ext.drewN ?_ _))
  rw [← hwb] at p0
  rw [← hwb]
  clear hwb
  go_loopw [5, 6] (fun bv kv wr => ∃ (k : Nat) (A : Option Addr) (c' : Nat), k ≤ h ∧ kv = .int .i64 ↑k ∧ bv = .slice A k c' ∧ wr.ownsRow wb.heap.size 3 1 (.slice A k c') k ((ci (List.range k)).map (Value.int .i64)) ∧ Ext wb wr) (fun _ kv _ => h - (intOf kv).toNat)
  case atStart => exact ⟨0, _, _, by omega, rfl, rfl, own_empty _ _ _ HBS.out (Nat.le_refl _) _ _, by repeat (first | exact Ext.refl _ | refine Ext.alloc ?_ _ | assumption | refine Ext.over ?_ _ | refine Ext.drew ?_ | refine Ext.drewN ?_ _)⟩
  case round =>
    obtain ⟨k, A, c', hk, rfl, rfl, hown, he⟩ := hrel
    have HO := hid hown
    have HE := hid he
    have b0 := old_cell he p0
    clear hown he
    by_cases hlt : k < h
    · go_wp2_with (at_builtin; refine wpList_push (wb) rfl (.tmp 17) (.tmp 19) 31 rfl 3 Try.underlying31 info_int rfl (by decide) _ k _ rfl (wr) HO.out (by repeat (first | exact Ext.refl _ | refine Ext.alloc ?_ _ | assumption | refine Ext.over ?_ _ | refine Ext.drew ?_ | refine Ext.drewN ?_ _)) (by repeat (first | exact Ext.refl _ | refine Ext.alloc ?_ _ | assumption | refine Ext.over ?_ _ | refine Ext.drew ?_ | refine Ext.drewN ?_ _)) _ 1 1 [.int .i64 (k)] rfl rfl (lit_cells _ _ (by first | (simp; done) | simp [ovr_size]) _ _) (by intro u hu; simp at hu; subst hu; rfl) (by omega) (by decide) ?_)
      intro A3 c3 w3 hown3 he3
      have HO3 := hid (show w3.ownsRow wb.heap.size 3 1 (.slice A3 (k + 1) c3) (k + 1) ((ci (List.range (k + 1))).map (Value.int .i64)) by rw [ci_range_succ, List.map_append]; exact hown3)
      have HE3 := hid he3
      clear hown3 he3 b0
      go_wp2_with fail
      go_roundw
      case rel => exact ⟨k + 1, A3, c3, by omega, by go_num, rfl, HO3.out, HE3.out⟩
      case measure => simp [intOf]; omega
    · obtain rfl : k = h := by omega
      obtain ⟨gb, rfl⟩ := own_addr HO.out (by omega)
      have hgb := (HO.out.lt gb rfl).1
      have hgw : w.heap.size < gb := by have := HBS.out; omega
      have HDR := hid (show Drawn w wr g from ⟨ext_grown (EB.out.trans HE.out) (some g), HC.out.ext (EB.out.trans HE.out)⟩)
      clear p0
      go_wp2_with fail
      clear b0
      go_loopw [7] (fun kv wr => ∃ (j : Nat) (o : List Nat), j < k ∧ kv = .int .i64 ↑j ∧ Beg k o ∧ o.length = k ∧ wr.ownsRow wb.heap.size 3 1 (.slice (some ⟨gb, 0, none⟩) k c') k ((ci o).map (Value.int .i64)) ∧ Drawn w wr g) (fun kv _ => (intOf kv).toNat)
      case atStart => exact ⟨k - 1, List.range k, by omega, by go_num, beg_range k, by simp, HO.out, HDR.out⟩
      case round =>
        clear HO HDR HE
        obtain ⟨j, o, hj, rfl, hbo, hol, hown, hdr⟩ := hrel
        have HO := hid hown
        have HB := hid hbo
        have HL := hid hol
        have HDR := hid hdr
        clear hown hbo hol hdr
        rename World => wo
        by_cases hlt : 0 < j
        · go_wp2_with fail
          refine (l01Below_any g (j + 1) _ HDR.out.2 (by omega)).mono ?_
          rintro _ w3 ⟨v, rfl, v0, v1, hd⟩
          obtain ⟨i, rfl⟩ : ∃ p : Nat, v = p := ⟨v.toNat, by omega⟩
          have hij : i ≤ j := by omega
          have HO3 := hid (hd.own HO.out (by have := HBS.out; omega))
          have HDR3 := hid (HDR.out.trans hd)
          have c1 := ci_cell HO3.out HL.out (j := i) (by omega)
          have c2 := ci_cell HO3.out HL.out (j := j) (by omega)
          have f1 := HO3.out.frozenAt i
          have f2 := HO3.out.frozenAt j
          have s1 := HO3.out.stored i (.int .i64 (atI (ci o) j))
          have s2 := s1.1.stored j (.int .i64 (atI (ci o) i))
          have HS := hid (show World.ownsRow _ wb.heap.size 3 1 (.slice (some ⟨gb, 0, none⟩) k c') k ((ci ((o.set i (o[j]'(by have := HL.out; omega))).set j (o[i]'(by have := HL.out; omega)))).map (Value.int .i64)) by rw [← ci_swap]; exact s2.1)
          have HD4 := hid ((HDR3.out.grown s1.2 hlow (by intro k hk; injection hk with hk; omega)).grown s2.2 hlow (by intro k hk; injection hk with hk; omega))
          clear hd v0 v1 s1 s2
          by_cases hne : i = j
          · subst hne
            go_wp2_with fail
            go_roundw
            case rel => exact ⟨i - 1, _, by omega, by go_num, beg_swap HB.out _ _, by have := HL.out; simp [this], HS.out, HD4.out⟩
            case measure => simp [intOf]; omega
          · go_wp2_with fail
            go_roundw
            case rel => exact ⟨j - 1, _, by omega, by go_num, beg_swap HB.out _ _, by have := HL.out; simp [this], HS.out, HD4.out⟩
            case measure => simp [intOf]; omega
        · go_wp2_with fail
          go_ret
          exact ⟨_, c', o, rfl, HB.out, HL.out, own_base HO.out (by have := HBS.out; omega), HDR.out⟩
set_option maxRecDepth 100000 in
set_option maxHeartbeats 1600000 in
theorem DrawOrder_any (A : Option Addr) (n c : Nat) (bs : List Int) (w : World) (hl : Row w A (bs.map (Value.int .u8))) (hn : bs.length = n) (hx : n ≤ 1048576) (hz : ∀ z ∈ bs, 0 ≤ z ∧ z ≤ 255) :
    Calls Try.prog 16 #[.slice A n c] w fun en w' => ∃ (h m c : Nat) (A' : Option Addr) (l : List T2) (B : Option Addr) (c2 : Nat) (o : List Nat), en = .returned (.tuple #[.agg #[.int .i64 h, .slice A' m c], .slice B h c2]) ∧ houseOk h l = true ∧ w'.ownsRow w.heap.size 66 2 (.slice A' m c) m (l.flatMap T2.v) ∧ l.length = m ∧ Beg h o ∧ o.length = h ∧ w'.ownsRow w.heap.size 3 1 (.slice B h c2) h ((ci o).map (Value.int .i64)) ∧ Ext w w' := by
  have HZ := hid hz
  clear hz
  go_enter Try.func16, Try.ntmps16
  go_wp2_with fail
  refine (l01New_any A n c bs _ (hl.ext (by repeat (first | exact Ext.refl _ | refine Ext.alloc ?_ _ | assumption | refine Ext.over ?_ _ | refine Ext.drew ?_ | refine Ext.drewN ?_ _))) hn hx HZ.out).mono ?_
  rintro _ w1 ⟨g, rfl, hg, hc, he⟩
  have hg1 : w.heap.size + 1 ≤ g := by simpa using hg
  have HC := hid hc
  have hgl := hc.lt
  have HR := hid (show Res w1 w.heap.size from (show Res (w.alloc (.cells #[.int .i64 0, .slice none 0 0] 26)) w.heap.size from ⟨⟨.int .i64 0, by go_simp⟩, ⟨.slice none 0 0, by go_simp⟩, by go_simp, by go_simp⟩).blk (he.block _ (by simp)))
  have HE := hid (Ext.trans (show Ext w _ by repeat (first | exact Ext.refl _ | refine Ext.alloc ?_ _ | assumption | refine Ext.over ?_ _ | refine Ext.drew ?_ | refine Ext.drewN ?_ _)) he)
  clear hc he hg
  go_wp2_with fail
  refine (l23House_any g w1 HC.out).mono ?_
  rintro _ w2 ⟨h, m, c', D, l, rfl, hok, ho, hlm, hd⟩
  obtain ⟨_, h1, h7, _⟩ := houseOk_bounds hok
  have HOK := hid hok
  have HO := hid ho
  have HD := hid hd
  have HR2 := hid (HR.out.blk (hd.1.block _ HR.out.lt (by intro e; injection e with e; omega)))
  have HL := hid hlm
  have hsz := HE.out.size
  have hsz2 := hd.size
  clear hok ho hd HR HC hlm
  go_wp2_with fail
  refine wp_region_r (LaterG g w.heap.size) (laterG_steady _ _) [.q 0, .q 1, .q 2, .u 3, .u 4, .u 5] (by kernel_rfl) (by kernel_rfl) (fun w3 e3 => ?_)
  obtain ⟨gt, hgt⟩ : ∃ gt, gt = w2.heap.size := ⟨_, rfl⟩
  have e2 : Ext w2 w3 := Ext.trans (by repeat (first | exact Ext.refl _ | refine Ext.alloc ?_ _ | assumption | refine Ext.over ?_ _ | refine Ext.drew ?_ | refine Ext.drewN ?_ _)) e3
  have c0 : w3.cell? ⟨gt, 0, none⟩ = some (.int .i64 ↑h) := old_cell e3 (by rw [hgt]; go_simp)
  have c1 : w3.cell? ⟨gt, 1, none⟩ = some (.slice D m c') := old_cell e3 (by rw [hgt]; go_simp)
  have hne1 : ¬ gt = g := by omega
  have hne2 : ¬ gt = w.heap.size := by omega
  have hgr : g ≠ w.heap.size := by omega
  have HD3 := hid (HD.out.ext e2)
  have HR3 := hid (HR2.out.blk (e2.block _ HR2.out.lt))
  have HO3 := hid (own_ext HO.out e2)
  rw [← hgt]
  clear HD HR2 HO e2 e3 hgt hsz2
  simp only [pick, List.getElem?_cons_succ, List.getElem?_cons_zero]
  repeat (refine wpR_q (fun K hK => ?_); go_simp; refine hK _ ?_; clear hK K)
  refine wpR_u ?_
  refine stepH_of (fun K hK => ?_)
  go_simp
  refine (l24Order_any g h m c' D w3 HD3.out.2 (by omega) (by omega)).mono ?_
  rintro _ w5 ⟨B, cb, o, rfl, hbo, hol, hob, hd5⟩
  refine ⟨_, rfl, hK _ _ (laterG_of (Kept.grown hd5.1)) ?_⟩; clear hK K
  have HBO := hid hbo
  have HOL := hid hol
  have HOB := hid hob
  have h3s := HD3.out.1.size
  have HD5 := hid (HD3.out.trans hd5)
  have HR5 := hid (HR3.out.blk (hd5.1.block _ HR3.out.lt (by intro e; injection e with e; omega)))
  have HO5 := hid (hd5.own HO3.out hgl)
  clear hd5 HD3 HR3 HO3 c0 c1 hbo hol hob
  obtain ⟨⟨r0, hr0⟩, ⟨r1, hr1⟩, rf0, rf1⟩ := HR5.out
  refine wpR_u ?_
  refine stepH_of (fun K hK => ?_)
  go_simp
  have hgrow : w5.grownBy ((w5.setCell ⟨w.heap.size, 0, none⟩ (.int .i64 ↑h)).setCell ⟨w.heap.size, 1, none⟩ (.slice D m c')) (some w.heap.size) := only_setCell (g := w.heap.size) (p := ⟨w.heap.size, 1, none⟩) (only_setCell (g := w.heap.size) (p := ⟨w.heap.size, 0, none⟩) (World.grownBy.refl _ _) (.inl rfl) _) (.inl rfl) _
  refine hK _ _ (laterG_of (Kept.grown' hgrow)) ?_; clear hK K
  have HO6 := hid (HO5.out.kept hgrow (.inr fun e => by have := (HO5.out.lt _ e).1; omega))
  have HE6 := hid (show Ext w _ from ((HD5.out.out HE.out (by omega)).setCell (p := ⟨w.heap.size, 0, none⟩) (Nat.le_refl _) (.int .i64 ↑h)).setCell (p := ⟨w.heap.size, 1, none⟩) (Nat.le_refl _) (.slice D m c'))
  have HOB6 := hid (HOB.out.kept hgrow (.inr fun e => by have := (HOB.out.lt _ e).1; omega))
  clear HD5 HR5 HO5 hgrow HOB
  ((first | refine wpR_u ?_ | skip); refine stepH_of (fun K hK => ?_); go_simp; refine hK _ _ (laterG_of (Kept.refl _ _ _)) ?_; clear hK K)
  refine wpR_nil ?_
  go_wp2_with fail
  refine bodyPost_ret (v := .tuple #[.agg #[.int .i64 h, .slice D m c'], .slice B h cb]) (by first | (simp [results, Try.results16, go_sem]; done) | (unfold results; rw [Try.results16]; go_simp)) rfl ?_
  exact ⟨h, m, c', D, l, B, cb, o, rfl, HOK.out, own_base HO6.out hsz, HL.out, HBO.out, HOL.out, own_base HOB6.out (by omega), HE6.out⟩
end Go.Proofs.Ytngniniiohgilaa
