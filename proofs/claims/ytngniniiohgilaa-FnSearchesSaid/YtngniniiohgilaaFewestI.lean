/- Walks: the best order by trying all orders. Conditions: a valid house. -/
import Derived.Test.YtngniniiohgilaaBestP
import Derived.Test.YtngniniiohgilaaClone
import Derived.Test.YtngniniiohgilaaHer4
namespace Go.Proofs.Ytngniniiohgilaa
open Go.RowKit
set_option linter.unusedVariables false

def BestAt (l : List T2) (h : Nat) (A : Option Addr) (c r : Nat) : Prop :=
  ∀ (b : List Nat) (B : Option Addr) (m d : Nat) (w : World), Row w A (l.flatMap T2.v) → Row w B ((ci b).map (Value.int .i64)) → b.length = m → Beg h b → r + m = h → (B = none → m = 0 ∧ d = 0) → m ≤ d →
    Calls Try.prog 53 #[.agg #[.int .i64 h, .slice A l.length c], .slice B m d] w fun en w' => ∃ g c', en = .returned (.tuple #[.slice (some ⟨g, 0, none⟩) h c', .int .i64 (bst l h r b).2]) ∧
      w'.ownsRow w.heap.size 3 1 (.slice (some ⟨g, 0, none⟩) h c') h ((ci (bst l h r b).1).map (Value.int .i64)) ∧ Ext w w'
set_option maxHeartbeats 3200000 in
set_option maxRecDepth 100000 in
theorem best_zero (h : Nat) (A : Option Addr) (c : Nat) (l : List T2) (hx : l.length ≤ 12) (h7 : h ≤ 7) (h1 : 1 ≤ h) (hf : doorsOk h l = true) : BestAt l h A c 0 := by
  intro b B m d w hl hb hm hB hr hnone hcap
  subst hm
  obtain rfl : h = b.length := by omega
  have hlen := ci_len b
  have HD := hid hf
  clear hf
  cases B with
  | none => have := hnone rfl; omega
  | some p =>
    go_enter Try.func53, Try.ntmps53
    go_wp2_with fail
    refine wp_region_her [true, false, true, true, false, false, false] (by kernel_rfl) (by kernel_rfl) ?_
    (simp only [selB, notB, List.map_cons, List.map_nil, Bool.not_true, Bool.not_false]; (repeat (refine wpH_step (fun K hK => ?_); go_simp; refine hK _ ?_; clear hK K)); refine wpH_nil ?_)
    refine wpT_step (fun w2 hw2 K hK => ?_)
    have e2 : Ext w w2 := (show Ext w _ by repeat (first | exact Ext.refl _ | refine Ext.alloc ?_ _ | assumption | refine Ext.over ?_ _ | refine Ext.drew ?_ | refine Ext.drewN ?_ _)).trans (later_ext hw2)
    clear hw2
    go_simp
    refine (Clone_any (some p) b.length d (ci b) w2 (hb.ext e2) hlen (by omega) (by intro h; cases h)).mono ?_
    rintro _ w3 ⟨A', c', rfl, ho, he3⟩
    refine ⟨_, rfl, hK _ _ he3.ex ?_⟩; clear hK K
    obtain ⟨g, rfl⟩ := own_addr ho (by omega)
    have HO3 := hid (own_base (base' := w.heap.size) ho e2.size)
    have E3 := hid (e2.trans he3)
    clear ho he3 e2
    refine wpT_step (fun w4 hw4 K hK => ?_)
    have e4 := later_ext hw4
    clear hw4
    go_simp
    refine (igf_any b.length A l.length c l _ b.length d (ci b) w4 (hl.ext (E3.out.trans e4)) rfl hx h7 HD.out (hb.ext (E3.out.trans e4)) hlen (by omega) hcap).mono ?_
    rintro _ w5 ⟨rfl, he5⟩
    refine ⟨_, rfl, hK _ _ he5.ex ?_⟩; clear hK K
    have HO5 := hid (own_ext HO3.out (e4.trans he5))
    have EX := hid (Ext.refl w5)
    have E5 := hid (E3.out.trans (e4.trans he5))
    clear e4 he5
    (refine wpT_step (fun wx hwx K hK => ?_); replace EX := hid (EX.out.trans (later_ext hwx)); clear hwx; go_simp; refine hK _ _ (Ext.ex (Ext.refl _)) ?_; clear hK K)
    (refine wpT_step (fun wx hwx K hK => ?_); replace EX := hid (EX.out.trans (later_ext hwx)); clear hwx; go_simp; refine hK _ _ (Ext.ex (Ext.refl _)) ?_; clear hK K)
    (refine wpT_nil (fun wx hwx => ?_); replace EX := hid (EX.out.trans (later_ext hwx)); clear hwx)
    go_wp2_with fail
    refine bodyPost_ret (v := .tuple #[.slice (some ⟨g, 0, none⟩) b.length c', .int .i64 (forTo l b.length (ci b) b.length)]) (by simp [results, Try.results53, go_sem]) rfl ⟨g, c', rfl, own_ext HO5.out EX.out, E5.out.trans EX.out⟩
set_option maxHeartbeats 6400000 in
set_option maxRecDepth 100000 in
theorem best_succ (h : Nat) (A : Option Addr) (c : Nat) (l : List T2) (hx : l.length ≤ 12) (h7 : h ≤ 7) (r : Nat) (ih : BestAt l h A c r) : BestAt l h A c (r + 1) := by
  intro b B m d w hl hb hm hB hr hnone hcap
  subst hm
  have hbl : b.length < h := by omega
  have hlen := ci_len b
  have IH := hid ih
  have HB := hid hB
  have hnil := eqNilS'
  have hsome := eqSomeS'
  have hne : ((b.length : Int) == (h : Int)) = false := by rw [beq_eq_false_iff_ne]; omega
  clear ih hB
  obtain ⟨wb, hwb⟩ : ∃ wb, wb = w.alloc (.cells #[.int .i64 ↑h, .slice A l.length c] 26) := ⟨_, rfl⟩
  have hew : Ext w wb := by rw [hwb]; repeat (first | exact Ext.refl _ | refine Ext.alloc ?_ _ | assumption | refine Ext.over ?_ _ | refine Ext.drew ?_ | refine Ext.drewN ?_ _)
  have hsz := hid (show wb.heap.size = w.heap.size + 1 by rw [hwb]; simp)
  have hb0 : wb.cell? ⟨w.heap.size, 0, none⟩ = some (.int .i64 ↑h) := by rw [hwb]; go_simp
  have hb1 : wb.cell? ⟨w.heap.size, 1, none⟩ = some (.slice A l.length c) := by rw [hwb]; go_simp
  go_enter Try.func53, Try.ntmps53
  go_wp2_with fail
  go_loopw [6, 7, 8] (fun fv lv iv wr => ∃ k : Nat, k ≤ h ∧ iv = .int .i64 ↑k ∧ Ext wb wr ∧ ((accTo (bstF l h r b) k = none ∧ fv = .slice none 0 0 ∧ lv = .int .i64 0) ∨ ∃ x g c', accTo (bstF l h r b) k = some x ∧ fv = .slice (some ⟨g, 0, none⟩) h c' ∧ lv = .int .i64 x.2 ∧ wr.ownsRow wb.heap.size 3 1 (.slice (some ⟨g, 0, none⟩) h c') h ((ci x.1).map (Value.int .i64)))) (fun _ _ iv _ => h - (intOf iv).toNat)
  case atStart => exact ⟨0, by omega, rfl, by rw [hwb]; repeat (first | exact Ext.refl _ | refine Ext.alloc ?_ _ | assumption | refine Ext.over ?_ _ | refine Ext.drew ?_ | refine Ext.drewN ?_ _), .inl ⟨rfl, rfl, rfl⟩⟩
  clear hwb
  case round =>
    rename World => wo
    obtain ⟨k, hk, rfl, he, hacc⟩ := hrel
    have HE := hid he
    have HL := hid (hl.ext (hew.trans he))
    have HRB := hid (hb.ext (hew.trans he))
    have b0 := old_cell he hb0
    have b1 := old_cell he hb1
    clear he
    by_cases hlt : k < h
    · cases hc : b.contains k
      rotate_left
      · have hF := hid (show bstF l h r b k = none by unfold bstF; rw [hc]; simp)
        have HA := hid (accTo_skip hF.out)
        have hmem : memI (ci b) k = true := by rw [ci_mem]; exact hc
        have HACC := hid hacc
        clear hacc
        go_wp2_with (go_at_call 49; refine (gives_b hmem (Contains_any _ _ _ (ci b) _ _ (HRB.out.ext (by repeat (first | exact Ext.refl _ | refine Ext.alloc ?_ _ | assumption | refine Ext.over ?_ _ | refine Ext.drew ?_ | refine Ext.drewN ?_ _))) hlen (by omega))).over.mono ?_; rintro e w' ⟨rfl, xw, rfl⟩)
        go_roundw
        case rel =>
          refine ⟨k + 1, by omega, by go_num, HE.out.trans (by repeat (first | exact Ext.refl _ | refine Ext.alloc ?_ _ | assumption | refine Ext.over ?_ _ | refine Ext.drew ?_ | refine Ext.drewN ?_ _)), ?_⟩
          rw [HA.out]
          rcases HACC.out with h1 | ⟨x, g, c', h1, h2, h3, h4⟩
          · exact .inl h1
          · exact .inr ⟨x, g, c', h1, h2, h3, own_ext h4 (by repeat (first | exact Ext.refl _ | refine Ext.alloc ?_ _ | assumption | refine Ext.over ?_ _ | refine Ext.drew ?_ | refine Ext.drewN ?_ _))⟩
        case measure => simp [intOf]; omega
      have hmem : memI (ci b) k = false := by rw [ci_mem]; exact hc
      have HACC := hid hacc
      clear hacc
      go_wp2_with (go_at_call 49; refine (gives_b hmem (Contains_any _ _ _ (ci b) _ _ (HRB.out.ext (by repeat (first | exact Ext.refl _ | refine Ext.alloc ?_ _ | assumption | refine Ext.over ?_ _ | refine Ext.drew ?_ | refine Ext.drewN ?_ _))) hlen (by omega))).over.mono ?_; rintro e w' ⟨rfl, xw, rfl⟩)
      refine wp_region_x [.q 0, .q 1, .q 3, .s 2 4, .u 5, .u 6, .u 7, .q 8, .q 9, .u 10, .u 11] (by kernel_rfl) (by kernel_rfl) (fun w1 e1 => ?_)
      have E1 := hid ((show Ext wo _ by repeat (first | exact Ext.refl _ | refine Ext.alloc ?_ _ | assumption | refine Ext.over ?_ _ | refine Ext.drew ?_ | refine Ext.drewN ?_ _)).trans e1)
      have b0 := old_cell E1.out b0
      have b1 := old_cell E1.out b1
      have hacc := HACC.out
      clear e1 HACC
      simp only [pick, List.getElem?_cons_succ, List.getElem?_cons_zero]
      repeat (refine wpZ_q (fun K hK => ?_); go_simp; refine hK _ ?_; clear hK K)
      refine wpZ_s ?_ ?_
      · -- the copy first
        refine stepH_of (fun K hK => ?_)
        go_simp
        refine (Clone_any B b.length d (ci b) w1 (HRB.out.ext E1.out) hlen (by omega) hnone).mono ?_
        rintro _ w3 ⟨A', c1, rfl, ho, he3⟩
        refine ⟨_, rfl, hK _ _ he3 ?_⟩; clear hK K
        refine stepH_of (fun K hK => ?_)
        go_simp
        refine hK _ _ (Below.alloc (Below.refl _ _) he3.size _) ?_; clear hK K
        have HO4 := hid (own_ext ho (show Ext w3 (w3.alloc (.cells #[.int .i64 ↑k] 3)) by repeat (first | exact Ext.refl _ | refine Ext.alloc ?_ _ | assumption | refine Ext.over ?_ _ | refine Ext.drew ?_ | refine Ext.drewN ?_ _)))
        have E4 := hid (show Ext w1 (w3.alloc (.cells #[.int .i64 ↑k] 3)) from he3.trans (by repeat (first | exact Ext.refl _ | refine Ext.alloc ?_ _ | assumption | refine Ext.over ?_ _ | refine Ext.drew ?_ | refine Ext.drewN ?_ _)))
        have HC4 := hid (lit_cells w3 w3.heap.size rfl [.int .i64 ↑k] 3)
        clear ho he3
        refine wpZ_u ?_
        refine stepH_of (fun K hK => ?_)
        rw [if_pos (by rfl)]
        refine her_push w1 (.tmp 33) (.tmp 35) 31 rfl 3 Try.underlying31 info_int rfl (by decide) _ b.length ((ci b).map (Value.int .i64)) rfl HO4.out E4.out _ 1 1 [.int .i64 k] rfl rfl HC4.out (by intro u hu; simp at hu; subst hu; rfl) (by omega) (by omega) (by decide) ?_
        intro g cap w5 ho5 he5 hg5
        refine hK _ _ (grown_below hg5 HO4.out (Nat.le_refl _) E4.out.size) ?_; clear hK K
        have HE5 := hid he5
        have HO5 := hid (show w5.ownsRow w1.heap.size 3 1 (.slice (some ⟨g, 0, none⟩) (b.length + 1) cap) (b.length + 1) ((ci (b ++ [k])).map (Value.int .i64)) by rw [ci_app, List.map_append]; exact ho5)
        clear ho5 he5 hg5
        refine wpZ_u ?_
        refine stepH_of (fun K hK => ?_)
        go_simp
        refine (IH.out (b ++ [k]) (some ⟨g, 0, none⟩) (b.length + 1) cap w5 (HL.out.ext (E1.out.trans HE5.out)) (Row.of_own HO5.out) (by simp) (HB.out.snoc hlt hc) (by omega) (by intro h; cases h) (own_cap HO5.out)).mono ?_
        rintro _ w6 ⟨g2, c2, rfl, ho6, he6⟩
        refine ⟨_, rfl, hK _ _ (ext_below he6 HE5.out.size) ?_⟩; clear hK K
        have E6 := hid (E1.out.trans (HE5.out.trans he6))
        have HO6 := hid (own_base (base' := wb.heap.size) ho6 ((HE.out.trans (E1.out.trans HE5.out)).size))
        clear ho6 he6 HO5 HE5 HO4 E4 HC4 E1
        ((first | refine wpZ_u ?_ | skip); refine stepH_of (fun K hK => ?_); go_simp; refine hK _ _ (Below.refl _ _) ?_; clear hK K)
        (refine wpZ_q (fun K hK => ?_); go_simp; refine hK _ ?_; clear hK K)
        (refine wpZ_q (fun K hK => ?_); go_simp; refine hK _ ?_; clear hK K)
        ((first | refine wpZ_u ?_ | skip); refine stepH_of (fun K hK => ?_); go_simp; refine hK _ _ (Below.refl _ _) ?_; clear hK K)
        ((first | refine wpZ_u ?_ | skip); refine stepH_of (fun K hK => ?_); go_simp; refine hK _ _ (Below.refl _ _) ?_; clear hK K)
        refine wpZ_nil ?_
        have hF := hid (show bstF l h r b k = some (bst l h r (b ++ [k])) by unfold bstF; rw [hc]; simp)
        obtain ⟨y, hy⟩ : ∃ y, y = bst l h r (b ++ [k]) := ⟨_, rfl⟩
        rw [← hy] at hF HO6 ⊢
        clear hy
        rcases hacc with ⟨hn, rfl, rfl⟩ | ⟨x, gx, cx, hs, rfl, rfl, hox⟩
        · have HN := hid hn
          have HR := hid (accTo_first hF.out hn)
          clear hn
          go_wp2_with fail
          go_roundw
          case rel => exact ⟨k + 1, by omega, by go_num, HE.out.trans E6.out, .inr ⟨y, g2, c2, HR.out, rfl, rfl, HO6.out⟩⟩
          case measure => simp [intOf]; omega
        · have HOX := hid (own_ext hox E6.out)
          clear hox
          by_cases hlt2 : y.2 < x.2
          · have HR := hid (accTo_less hF.out hs hlt2)
            clear hs
            go_wp2_with fail
            go_roundw
            case rel => exact ⟨k + 1, by omega, by go_num, HE.out.trans E6.out, .inr ⟨y, g2, c2, HR.out, rfl, rfl, HO6.out⟩⟩
            case measure => simp [intOf]; omega
          · have HR := hid (accTo_more hF.out hs hlt2)
            clear hs
            go_wp2_with fail
            go_roundw
            case rel => exact ⟨k + 1, by omega, by go_num, HE.out.trans E6.out, .inr ⟨x, gx, cx, HR.out, rfl, rfl, HOX.out⟩⟩
            case measure => simp [intOf]; omega
      · -- the literal first
        refine stepH_of (fun K hK => ?_)
        go_simp
        refine hK _ _ (Below.alloc (Below.refl _ _) (Nat.le_refl _) _) ?_; clear hK K
        obtain ⟨w2, hw2⟩ : ∃ w2, w2 = w1.alloc (.cells #[.int .i64 ↑k] 3) := ⟨_, rfl⟩
        have e2 : Ext w1 w2 := by rw [hw2]; repeat (first | exact Ext.refl _ | refine Ext.alloc ?_ _ | assumption | refine Ext.over ?_ _ | refine Ext.drew ?_ | refine Ext.drewN ?_ _)
        have HC2 := hid (show ∀ j u, [Value.int .i64 (k : Int)][j]? = some u → w2.cell? ((⟨w1.heap.size, 0, none⟩ : Addr).add j) = some u by rw [hw2]; exact lit_cells w1 w1.heap.size rfl [.int .i64 ↑k] 3)
        rw [← hw2]
        clear hw2
        refine stepH_of (fun K hK => ?_)
        go_simp
        refine (Clone_any B b.length d (ci b) w2 (HRB.out.ext (E1.out.trans e2)) hlen (by omega) hnone).mono ?_
        rintro _ w3 ⟨A', c1, rfl, ho, he3⟩
        refine ⟨_, rfl, hK _ _ (ext_below he3 e2.size) ?_⟩; clear hK K
        have HO4 := hid (own_base (base' := w1.heap.size) ho e2.size)
        have E4 := hid (e2.trans he3)
        have HC4 := hid (show ∀ j u, [Value.int .i64 (k : Int)][j]? = some u → w3.cell? ((⟨w1.heap.size, 0, none⟩ : Addr).add j) = some u from fun j u hu => old_cell he3 (HC2.out j u hu))
        clear ho he3 e2 HC2
        refine wpZ_u ?_
        refine stepH_of (fun K hK => ?_)
        rw [if_pos (by rfl)]
        refine her_push w1 (.tmp 33) (.tmp 35) 31 rfl 3 Try.underlying31 info_int rfl (by decide) _ b.length ((ci b).map (Value.int .i64)) rfl HO4.out E4.out _ 1 1 [.int .i64 k] rfl rfl HC4.out (by intro u hu; simp at hu; subst hu; rfl) (by omega) (by omega) (by decide) ?_
        intro g cap w5 ho5 he5 hg5
        refine hK _ _ (grown_below hg5 HO4.out (Nat.le_refl _) E4.out.size) ?_; clear hK K
        have HE5 := hid he5
        have HO5 := hid (show w5.ownsRow w1.heap.size 3 1 (.slice (some ⟨g, 0, none⟩) (b.length + 1) cap) (b.length + 1) ((ci (b ++ [k])).map (Value.int .i64)) by rw [ci_app, List.map_append]; exact ho5)
        clear ho5 he5 hg5
        refine wpZ_u ?_
        refine stepH_of (fun K hK => ?_)
        go_simp
        refine (IH.out (b ++ [k]) (some ⟨g, 0, none⟩) (b.length + 1) cap w5 (HL.out.ext (E1.out.trans HE5.out)) (Row.of_own HO5.out) (by simp) (HB.out.snoc hlt hc) (by omega) (by intro h; cases h) (own_cap HO5.out)).mono ?_
        rintro _ w6 ⟨g2, c2, rfl, ho6, he6⟩
        refine ⟨_, rfl, hK _ _ (ext_below he6 HE5.out.size) ?_⟩; clear hK K
        have E6 := hid (E1.out.trans (HE5.out.trans he6))
        have HO6 := hid (own_base (base' := wb.heap.size) ho6 ((HE.out.trans (E1.out.trans HE5.out)).size))
        clear ho6 he6 HO5 HE5 HO4 E4 HC4 E1
        ((first | refine wpZ_u ?_ | skip); refine stepH_of (fun K hK => ?_); go_simp; refine hK _ _ (Below.refl _ _) ?_; clear hK K)
        (refine wpZ_q (fun K hK => ?_); go_simp; refine hK _ ?_; clear hK K)
        (refine wpZ_q (fun K hK => ?_); go_simp; refine hK _ ?_; clear hK K)
        ((first | refine wpZ_u ?_ | skip); refine stepH_of (fun K hK => ?_); go_simp; refine hK _ _ (Below.refl _ _) ?_; clear hK K)
        ((first | refine wpZ_u ?_ | skip); refine stepH_of (fun K hK => ?_); go_simp; refine hK _ _ (Below.refl _ _) ?_; clear hK K)
        refine wpZ_nil ?_
        have hF := hid (show bstF l h r b k = some (bst l h r (b ++ [k])) by unfold bstF; rw [hc]; simp)
        obtain ⟨y, hy⟩ : ∃ y, y = bst l h r (b ++ [k]) := ⟨_, rfl⟩
        rw [← hy] at hF HO6 ⊢
        clear hy
        rcases hacc with ⟨hn, rfl, rfl⟩ | ⟨x, gx, cx, hs, rfl, rfl, hox⟩
        · have HN := hid hn
          have HR := hid (accTo_first hF.out hn)
          clear hn
          go_wp2_with fail
          go_roundw
          case rel => exact ⟨k + 1, by omega, by go_num, HE.out.trans E6.out, .inr ⟨y, g2, c2, HR.out, rfl, rfl, HO6.out⟩⟩
          case measure => simp [intOf]; omega
        · have HOX := hid (own_ext hox E6.out)
          clear hox
          by_cases hlt2 : y.2 < x.2
          · have HR := hid (accTo_less hF.out hs hlt2)
            clear hs
            go_wp2_with fail
            go_roundw
            case rel => exact ⟨k + 1, by omega, by go_num, HE.out.trans E6.out, .inr ⟨y, g2, c2, HR.out, rfl, rfl, HO6.out⟩⟩
            case measure => simp [intOf]; omega
          · have HR := hid (accTo_more hF.out hs hlt2)
            clear hs
            go_wp2_with fail
            go_roundw
            case rel => exact ⟨k + 1, by omega, by go_num, HE.out.trans E6.out, .inr ⟨x, gx, cx, HR.out, rfl, rfl, HOX.out⟩⟩
            case measure => simp [intOf]; omega
    · obtain rfl : k = h := by omega
      have hbs := bst_succ l k r b
      rcases accTo_spec (bstF l k r b) k with ⟨_, h2⟩ | ⟨j, x, hj, hxj, ha, -, -⟩
      · exfalso
        obtain ⟨q, hq, hc⟩ := HB.out.free hbl
        have := h2 q hq
        unfold bstF at this
        rw [hc] at this
        simp at this
      · rw [ha] at hbs hacc
        have HBS := hid (show bst l k (r + 1) b = x from hbs)
        rcases hacc with ⟨hn, _⟩ | ⟨x', gx, cx, hs, rfl, rfl, hox⟩
        · cases hn
        · cases hs
          have HOX := hid hox
          clear hox ha hbs hxj
          go_wp2_with fail
          refine bodyPost_ret (v := .tuple #[.slice (some ⟨gx, 0, none⟩) k cx, .int .i64 x.2]) (by simp [results, Try.results53, go_sem]) rfl ?_
          rw [HBS.out]
          exact ⟨gx, cx, rfl, own_base HOX.out (by have := hsz.out; omega), hew.trans HE.out⟩
theorem best_any (h : Nat) (A : Option Addr) (c : Nat) (l : List T2) (hx : l.length ≤ 12) (h7 : h ≤ 7) (h1 : 1 ≤ h) (hf : doorsOk h l = true) : ∀ r, BestAt l h A c r
  | 0 => best_zero h A c l hx h7 h1 hf
  | r + 1 => best_succ h A c l hx h7 r (best_any h A c l hx h7 h1 hf r)
end Go.Proofs.Ytngniniiohgilaa
