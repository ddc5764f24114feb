/- Walks: the cheapest choice of guards by trying all. Conditions: a valid house, at most five guards. -/
import Derived.Test.YtngniniiohgilaaDispP
import Derived.Test.YtngniniiohgilaaClone
import Derived.Test.YtngniniiohgilaaHer4
import Derived.Test.YtngniniiohgilaaDistance
import Derived.Test.YtngniniiohgilaaHallsI
namespace Go.Proofs.Ytngniniiohgilaa
open Go.RowKit
set_option linter.unusedVariables false

/-- The way of a guard to a hall. -/
def dd (h : Nat) (l : List T2) (gs hs : List Int) (g i : Nat) : Int := if g < gs.length ∧ i < hs.length then dist h (adjD l) (atI gs g).toNat (atI hs i).toNat else 0
theorem dd_in {h : Nat} {l : List T2} {gs hs : List Int} {g i : Nat} (hg : g < gs.length) (hi : i < hs.length) : dd h l gs hs g i = dist h (adjD l) (atI gs g).toNat (atI hs i).toNat := if_pos ⟨hg, hi⟩
def InH (h : Nat) (g : List Int) : Prop := ∀ k, k < g.length → 0 ≤ atI g k ∧ atI g k < h
theorem dd_bound {h : Nat} {l : List T2} {gs hs : List Int} (hk : houseOk h l = true) (hg : InH h gs) (hh : InH h hs) (g i : Nat) : 0 ≤ dd h l gs hs g i ∧ dd h l gs hs g i ≤ 7 := by
  obtain ⟨_, h1, h7, _⟩ := houseOk_bounds hk
  unfold dd
  split
  · rename_i hc
    have a := hg g hc.1
    have b := hh i hc.2
    have h2 := reach_all hk (a := (atI gs g).toNat) (b := (atI hs i).toNat) (by omega) (by omega)
    have h3 := depthD (l := l) (h := h) (a := (atI gs g).toNat) (atI hs i).toNat (by omega)
    omega
  · omega
def DispAt (l : List T2) (h : Nat) (A : Option Addr) (c : Nat) (gs hs : List Int) (GA HA : Option Addr) (gc hc' r : Nat) : Prop :=
  ∀ (b : List Nat) (B : Option Addr) (m d : Nat) (w : World), Row w A (l.flatMap T2.v) → Row w GA (gs.map (Value.int .i64)) → Row w HA (hs.map (Value.int .i64)) → Row w B ((ci b).map (Value.int .i64)) → b.length = m → Beg gs.length b → r + m = hs.length → (B = none → m = 0 ∧ d = 0) → m ≤ d →
    Calls Try.prog 60 #[.agg #[.int .i64 h, .slice A l.length c], .slice GA gs.length gc, .slice HA hs.length hc', .slice B m d] w fun en w' => ∃ g c', en = .returned (.tuple #[.slice (some ⟨g, 0, none⟩) hs.length c', .int .i64 (disp (dd h l gs hs) gs.length r b).2]) ∧
      w'.ownsRow w.heap.size 3 1 (.slice (some ⟨g, 0, none⟩) hs.length c') hs.length ((ci (disp (dd h l gs hs) gs.length r b).1).map (Value.int .i64)) ∧ Ext w w'
set_option maxHeartbeats 3200000 in
set_option maxRecDepth 100000 in
theorem disp_zero (h : Nat) (A : Option Addr) (c : Nat) (l : List T2) (gs hs : List Int) (GA HA : Option Addr) (gc hc' : Nat) (hk : houseOk h l = true) (hg : InH h gs) (hh : InH h hs) (hG5 : gs.length ≤ 5) (hm1 : 1 ≤ hs.length) (hmG : hs.length ≤ gs.length) : DispAt l h A c gs hs GA HA gc hc' 0 := by
  intro b B m d w hl hgr hhr hb hm hB hr hnone hcap
  subst hm
  have hbl : hs.length = b.length := by omega
  have hlen := ci_len b
  obtain ⟨hf, h1, h7, h12⟩ := houseOk_bounds hk
  have HD := hid hf
  have HB := hid hB
  have HG := hid hg
  have HH := hid hh
  have hdb := dd_bound hk hg hh
  have HDB := hid hdb
  clear hf hB hg hh hk hdb
  generalize hmm : hs.length = mm at hbl hm1 hmG ⊢
  subst hbl
  have HM := hid hmm
  clear hmm
  cases B with
  | none => have := hnone rfl; omega
  | some p =>
    go_enter Try.func60, Try.ntmps60
    go_wp2_with fail
    go_loopw [11, 27] (fun sv iv wr => ∃ k : Nat, k ≤ b.length ∧ iv = .int .i64 ↑k ∧ sv = .int .i64 (dsum (dd h l gs hs) b k) ∧ Ext w wr ∧ wr.cell? ⟨w.heap.size, 0, none⟩ = some (.int .i64 h) ∧ wr.cell? ⟨w.heap.size, 1, none⟩ = some (.slice A l.length c)) (fun _ iv _ => b.length - (intOf iv).toNat)
    case atStart => exact ⟨0, by omega, rfl, rfl, by repeat (first | exact Ext.refl _ | refine Ext.alloc ?_ _ | assumption | refine Ext.over ?_ _ | refine Ext.drew ?_ | refine Ext.drewN ?_ _), by go_simp, by go_simp⟩
    case round =>
      obtain ⟨k, hk, rfl, rfl, he, b0, b1⟩ := hrel
      have HE := hid he
      have HL := hid (hl.ext he)
      have hbr := hb.ext he
      have hgr2 := hgr.ext he
      have hhr2 := hhr.ext he
      have HBR := hid hbr
      have hsb := dsum_bound (b := b) HDB.out k
      obtain ⟨s, hs1⟩ : ∃ s, s = dsum (dd h l gs hs) b k := ⟨_, rfl⟩
      rw [← hs1] at hsb ⊢
      have HS := hid hs1
      clear he hs1
      by_cases hlt : k < b.length
      · obtain ⟨x, hx⟩ : ∃ x, x = natAt b k := ⟨_, rfl⟩
        have hxG : x < gs.length := HB.out.2 x (hx ▸ natAt_mem hlt)
        obtain ⟨bb, boff, hBB, hbc⟩ := hbr.ints (i := k) (by rw [hlen]; exact hlt)
        injection hBB with hBB
        subst hBB
        have c0 := hbc k (by rw [hlen]; exact hlt)
        rw [ci_at hlt, ← natAt_eq _ _ hlt, ← hx] at c0
        obtain ⟨gb, goff, rfl, hgc⟩ := hgr2.ints hxG
        obtain ⟨hb2, hoff, rfl, hhc⟩ := hhr2.ints (i := k) (by rw [HM.out]; exact hlt)
        have c1 := hgc x hxG
        have c2 := hhc k (by rw [HM.out]; exact hlt)
        have ig := HG.out x hxG
        have ih := HH.out k (by rw [HM.out]; exact hlt)
        obtain ⟨u, hu⟩ : ∃ u : Nat, u = (atI gs x).toNat := ⟨_, rfl⟩
        obtain ⟨v, hv⟩ : ∃ v : Nat, v = (atI hs k).toNat := ⟨_, rfl⟩
        rw [show atI gs x = (u : Int) by omega] at c1
        rw [show atI hs k = (v : Int) by omega] at c2
        have q1 : u < h := by omega
        have q2 : v < h := by omega
        have hval : dist h (adjD l) u v = dd h l gs hs x k := by rw [dd_in hxG (by rw [HM.out]; exact hlt), hu, hv]
        have hvb := HDB.out x k
        obtain ⟨y, hy⟩ : ∃ y, y = dd h l gs hs x k := ⟨_, rfl⟩
        rw [← hy] at hval hvb
        have HVAL := hid hval
        have HN := hid (show s + y = dsum (dd h l gs hs) b (k + 1) by
          show _ = dsum (dd h l gs hs) b k + dd h l gs hs (natAt b k) k
          rw [← HS.out, ← hx, ← hy])
        have hw : IntKind.i64.wrap (s + y) = s + y := IntWalk.i64_in _ ⟨by omega, by omega⟩
        clear hbc hgc hhc hbr hgr2 hhr2 ig ih hu hv hy hx hval
        go_wp2_with fail
        (refine wp_region_calm (by kernel_rfl) (by kernel_rfl) ?_; (repeat (go_big_quiet_step ((go_at_call 62; exact (gives_v HVAL.out (distance_any h _ _ _ l u v _ (HL.out.ext (by repeat (first | exact Ext.refl _ | refine Ext.alloc ?_ _ | assumption | refine Ext.over ?_ _ | refine Ext.drew ?_ | refine Ext.drewN ?_ _))) rfl h12 (by omega) HD.out q1 q2)).calm)))); refine wpQuiet_nil ?_; rintro w1 ⟨x1, rfl⟩)
        go_wp2_with fail
        go_roundw
        case rel => exact ⟨k + 1, by omega, by go_num, by rw [← HN.out], HE.out.trans (by repeat (first | exact Ext.refl _ | refine Ext.alloc ?_ _ | assumption | refine Ext.over ?_ _ | refine Ext.drew ?_ | refine Ext.drewN ?_ _)), by go_simp, by go_simp⟩
        case measure => simp [intOf]; omega
      · obtain rfl : k = b.length := by omega
        clear hbr hgr2 hhr2
        go_wp2_with fail
        refine (Clone_any (some p) b.length d (ci b) wr HBR.out hlen (by omega) (by intro h; cases h)).mono ?_
        rintro _ w3 ⟨A', c1, rfl, ho, he3⟩
        obtain ⟨g, rfl⟩ := own_addr ho (by omega)
        have HO3 := hid (own_base (base' := w.heap.size) ho HE.out.size)
        have E3 := hid (HE.out.trans he3)
        clear ho he3
        go_wp2_with fail
        refine bodyPost_ret (v := .tuple #[.slice (some ⟨g, 0, none⟩) b.length c1, .int .i64 s]) (by simp [results, Try.results60, go_sem]) rfl ?_
        refine ⟨g, c1, ?_, HO3.out, E3.out⟩
        rw [HS.out]; rfl
set_option maxHeartbeats 6400000 in
set_option maxRecDepth 100000 in
theorem disp_next (h : Nat) (A : Option Addr) (c : Nat) (l : List T2) (gs hs : List Int) (GA HA : Option Addr) (gc hc' : Nat) (hG5 : gs.length ≤ 5) (hmG : hs.length ≤ gs.length) (r : Nat) (ih : DispAt l h A c gs hs GA HA gc hc' r) : DispAt l h A c gs hs GA HA gc hc' (r + 1) := by
  intro b B m d w hl hgr hhr hb hm hB hr hnone hcap
  subst hm
  have hbl : b.length < hs.length := by omega
  have hlen := ci_len b
  have IH := hid ih
  have HB := hid hB
  have hnil := eqNilS'
  have hsome := eqSomeS'
  have hne : ((b.length : Int) == (hs.length : Int)) = false := by rw [beq_eq_false_iff_ne]; omega
  clear ih hB
  obtain ⟨wb, hwb⟩ : ∃ wb, wb = w.alloc (.cells #[.int .i64 ↑h, .slice A l.length c] 26) := ⟨_, rfl⟩
  have hew : Ext w wb := by rw [hwb]; repeat (first | exact Ext.refl _ | refine Ext.alloc ?_ _ | assumption | refine Ext.over ?_ _ | refine Ext.drew ?_ | refine Ext.drewN ?_ _)
  have hsz := hid (show wb.heap.size = w.heap.size + 1 by rw [hwb]; simp)
  have hb0 : wb.cell? ⟨w.heap.size, 0, none⟩ = some (.int .i64 ↑h) := by rw [hwb]; go_simp
  have hb1 : wb.cell? ⟨w.heap.size, 1, none⟩ = some (.slice A l.length c) := by rw [hwb]; go_simp
  go_enter Try.func60, Try.ntmps60
  go_wp2_with fail
  go_loopw [14, 15, 50] (fun fv lv iv wr => ∃ k : Nat, k ≤ gs.length ∧ iv = .int .i64 ↑k ∧ Ext wb wr ∧ ((accTo (dispF (dd h l gs hs) gs.length r b) k = none ∧ fv = .slice none 0 0 ∧ lv = .int .i64 0) ∨ ∃ x g c', accTo (dispF (dd h l gs hs) gs.length r b) k = some x ∧ fv = .slice (some ⟨g, 0, none⟩) hs.length c' ∧ lv = .int .i64 x.2 ∧ wr.ownsRow wb.heap.size 3 1 (.slice (some ⟨g, 0, none⟩) hs.length c') hs.length ((ci x.1).map (Value.int .i64)))) (fun _ _ iv _ => gs.length - (intOf iv).toNat)
  case atStart => exact ⟨0, by omega, rfl, by rw [hwb]; repeat (first | exact Ext.refl _ | refine Ext.alloc ?_ _ | assumption | refine Ext.over ?_ _ | refine Ext.drew ?_ | refine Ext.drewN ?_ _), .inl ⟨rfl, rfl, rfl⟩⟩
  clear hwb
  case round =>
    rename World => wo
    obtain ⟨k, hk, rfl, he, hacc⟩ := hrel
    have HE := hid he
    have HL := hid (hl.ext (hew.trans he))
    have HRB := hid (hb.ext (hew.trans he))
    have HGR := hid (hgr.ext (hew.trans he))
    have HHR := hid (hhr.ext (hew.trans he))
    have b0 := old_cell he hb0
    have b1 := old_cell he hb1
    clear he
    by_cases hlt : k < gs.length
    · cases hc : b.contains k
      rotate_left
      · have hF := hid (show dispF (dd h l gs hs) gs.length r b k = none by unfold dispF; rw [hc]; simp)
        have HA := hid (accTo_skip hF.out)
        have hmem : memI (ci b) k = true := by rw [ci_mem]; exact hc
        have HACC := hid hacc
        clear hacc
        go_wp2_with (go_at_call 49; refine (gives_b hmem (Contains_any _ _ _ (ci b) _ _ (HRB.out.ext (by repeat (first | exact Ext.refl _ | refine Ext.alloc ?_ _ | assumption | refine Ext.over ?_ _ | refine Ext.drew ?_ | refine Ext.drewN ?_ _))) hlen (by omega))).over.mono ?_; rintro e w' ⟨rfl, xw, rfl⟩)
        go_roundw
        case rel =>
          refine ⟨k + 1, by omega, by go_num, HE.out.trans (by repeat (first | exact Ext.refl _ | refine Ext.alloc ?_ _ | assumption | refine Ext.over ?_ _ | refine Ext.drew ?_ | refine Ext.drewN ?_ _)), ?_⟩
          rw [HA.out]
          rcases HACC.out with h1 | ⟨x, g, c', h1, h2, h3, h4⟩
          · exact .inl h1
          · exact .inr ⟨x, g, c', h1, h2, h3, own_ext h4 (by repeat (first | exact Ext.refl _ | refine Ext.alloc ?_ _ | assumption | refine Ext.over ?_ _ | refine Ext.drew ?_ | refine Ext.drewN ?_ _))⟩
        case measure => simp [intOf]; omega
      have hmem : memI (ci b) k = false := by rw [ci_mem]; exact hc
      have HACC := hid hacc
      clear hacc
      go_wp2_with (go_at_call 49; refine (gives_b hmem (Contains_any _ _ _ (ci b) _ _ (HRB.out.ext (by repeat (first | exact Ext.refl _ | refine Ext.alloc ?_ _ | assumption | refine Ext.over ?_ _ | refine Ext.drew ?_ | refine Ext.drewN ?_ _))) hlen (by omega))).over.mono ?_; rintro e w' ⟨rfl, xw, rfl⟩)
      refine wp_region_x [.q 0, .q 1, .q 2, .q 3, .q 5, .s 4 6, .u 7, .u 8, .u 9, .q 10, .q 11, .u 12, .u 13] (by kernel_rfl) (by kernel_rfl) (fun w1 e1 => ?_)
      have E1 := hid ((show Ext wo _ by repeat (first | exact Ext.refl _ | refine Ext.alloc ?_ _ | assumption | refine Ext.over ?_ _ | refine Ext.drew ?_ | refine Ext.drewN ?_ _)).trans e1)
      have b0 := old_cell E1.out b0
      have b1 := old_cell E1.out b1
      have hacc := HACC.out
      clear e1 HACC
      simp only [pick, List.getElem?_cons_succ, List.getElem?_cons_zero]
      repeat (refine wpZ_q (fun K hK => ?_); go_simp; refine hK _ ?_; clear hK K)
      refine wpZ_s ?_ ?_
      · -- the copy first
        refine stepH_of (fun K hK => ?_)
        go_simp
        refine (Clone_any B b.length d (ci b) w1 (HRB.out.ext E1.out) hlen (by omega) hnone).mono ?_
        rintro _ w3 ⟨A', c1, rfl, ho, he3⟩
        refine ⟨_, rfl, hK _ _ he3 ?_⟩; clear hK K
        refine stepH_of (fun K hK => ?_)
        go_simp
        refine hK _ _ (Below.alloc (Below.refl _ _) he3.size _) ?_; clear hK K
        have HO4 := hid (own_ext ho (show Ext w3 (w3.alloc (.cells #[.int .i64 ↑k] 3)) by repeat (first | exact Ext.refl _ | refine Ext.alloc ?_ _ | assumption | refine Ext.over ?_ _ | refine Ext.drew ?_ | refine Ext.drewN ?_ _)))
        have E4 := hid (show Ext w1 (w3.alloc (.cells #[.int .i64 ↑k] 3)) from he3.trans (by repeat (first | exact Ext.refl _ | refine Ext.alloc ?_ _ | assumption | refine Ext.over ?_ _ | refine Ext.drew ?_ | refine Ext.drewN ?_ _)))
        have HC4 := hid (lit_cells w3 w3.heap.size rfl [.int .i64 ↑k] 3)
        clear ho he3
        refine wpZ_u ?_
        refine stepH_of (fun K hK => ?_)
        rw [if_pos (by rfl)]
        refine her_push w1 (.tmp 61) (.tmp 63) 31 rfl 3 Try.underlying31 info_int rfl (by decide) _ b.length ((ci b).map (Value.int .i64)) rfl HO4.out E4.out _ 1 1 [.int .i64 k] rfl rfl HC4.out (by intro u hu; simp at hu; subst hu; rfl) (by omega) (by omega) (by decide) ?_
        intro g cap w5 ho5 he5 hg5
        refine hK _ _ (grown_below hg5 HO4.out (Nat.le_refl _) E4.out.size) ?_; clear hK K
        have HE5 := hid he5
        have HO5 := hid (show w5.ownsRow w1.heap.size 3 1 (.slice (some ⟨g, 0, none⟩) (b.length + 1) cap) (b.length + 1) ((ci (b ++ [k])).map (Value.int .i64)) by rw [ci_app, List.map_append]; exact ho5)
        clear ho5 he5 hg5
        refine wpZ_u ?_
        refine stepH_of (fun K hK => ?_)
        go_simp
        refine (IH.out (b ++ [k]) (some ⟨g, 0, none⟩) (b.length + 1) cap w5 (HL.out.ext (E1.out.trans HE5.out)) (HGR.out.ext (E1.out.trans HE5.out)) (HHR.out.ext (E1.out.trans HE5.out)) (Row.of_own HO5.out) (by simp) (HB.out.snoc hlt hc) (by omega) (by intro h; cases h) (own_cap HO5.out)).mono ?_
        rintro _ w6 ⟨g2, c2, rfl, ho6, he6⟩
        refine ⟨_, rfl, hK _ _ (ext_below he6 HE5.out.size) ?_⟩; clear hK K
        have E6 := hid (E1.out.trans (HE5.out.trans he6))
        have HO6 := hid (own_base (base' := wb.heap.size) ho6 ((HE.out.trans (E1.out.trans HE5.out)).size))
        clear ho6 he6 HO5 HE5 HO4 E4 HC4 E1
        ((first | refine wpZ_u ?_ | skip); refine stepH_of (fun K hK => ?_); go_simp; refine hK _ _ (Below.refl _ _) ?_; clear hK K)
        (refine wpZ_q (fun K hK => ?_); go_simp; refine hK _ ?_; clear hK K)
        (refine wpZ_q (fun K hK => ?_); go_simp; refine hK _ ?_; clear hK K)
        ((first | refine wpZ_u ?_ | skip); refine stepH_of (fun K hK => ?_); go_simp; refine hK _ _ (Below.refl _ _) ?_; clear hK K)
        ((first | refine wpZ_u ?_ | skip); refine stepH_of (fun K hK => ?_); go_simp; refine hK _ _ (Below.refl _ _) ?_; clear hK K)
        refine wpZ_nil ?_
        have hF := hid (show dispF (dd h l gs hs) gs.length r b k = some (disp (dd h l gs hs) gs.length r (b ++ [k])) by unfold dispF; rw [hc]; simp)
        obtain ⟨y, hy⟩ : ∃ y, y = disp (dd h l gs hs) gs.length r (b ++ [k]) := ⟨_, rfl⟩
        rw [← hy] at hF HO6 ⊢
        clear hy
        rcases hacc with ⟨hn, rfl, rfl⟩ | ⟨x, gx, cx, hs, rfl, rfl, hox⟩
        · have HN := hid hn
          have HR := hid (accTo_first hF.out hn)
          clear hn
          go_wp2_with fail
          go_roundw
          case rel => exact ⟨k + 1, by omega, by go_num, HE.out.trans E6.out, .inr ⟨y, g2, c2, HR.out, rfl, rfl, HO6.out⟩⟩
          case measure => simp [intOf]; omega
        · have HOX := hid (own_ext hox E6.out)
          clear hox
          by_cases hlt2 : y.2 < x.2
          · have HR := hid (accTo_less hF.out hs hlt2)
            clear hs
            go_wp2_with fail
            go_roundw
            case rel => exact ⟨k + 1, by omega, by go_num, HE.out.trans E6.out, .inr ⟨y, g2, c2, HR.out, rfl, rfl, HO6.out⟩⟩
            case measure => simp [intOf]; omega
          · have HR := hid (accTo_more hF.out hs hlt2)
            clear hs
            go_wp2_with fail
            go_roundw
            case rel => exact ⟨k + 1, by omega, by go_num, HE.out.trans E6.out, .inr ⟨x, gx, cx, HR.out, rfl, rfl, HOX.out⟩⟩
            case measure => simp [intOf]; omega
      · -- the literal first
        refine stepH_of (fun K hK => ?_)
        go_simp
        refine hK _ _ (Below.alloc (Below.refl _ _) (Nat.le_refl _) _) ?_; clear hK K
        obtain ⟨w2, hw2⟩ : ∃ w2, w2 = w1.alloc (.cells #[.int .i64 ↑k] 3) := ⟨_, rfl⟩
        have e2 : Ext w1 w2 := by rw [hw2]; repeat (first | exact Ext.refl _ | refine Ext.alloc ?_ _ | assumption | refine Ext.over ?_ _ | refine Ext.drew ?_ | refine Ext.drewN ?_ _)
        have HC2 := hid (show ∀ j u, [Value.int .i64 (k : Int)][j]? = some u → w2.cell? ((⟨w1.heap.size, 0, none⟩ : Addr).add j) = some u by rw [hw2]; exact lit_cells w1 w1.heap.size rfl [.int .i64 ↑k] 3)
        rw [← hw2]
        clear hw2
        refine stepH_of (fun K hK => ?_)
        go_simp
        refine (Clone_any B b.length d (ci b) w2 (HRB.out.ext (E1.out.trans e2)) hlen (by omega) hnone).mono ?_
        rintro _ w3 ⟨A', c1, rfl, ho, he3⟩
        refine ⟨_, rfl, hK _ _ (ext_below he3 e2.size) ?_⟩; clear hK K
        have HO4 := hid (own_base (base' := w1.heap.size) ho e2.size)
        have E4 := hid (e2.trans he3)
        have HC4 := hid (show ∀ j u, [Value.int .i64 (k : Int)][j]? = some u → w3.cell? ((⟨w1.heap.size, 0, none⟩ : Addr).add j) = some u from fun j u hu => old_cell he3 (HC2.out j u hu))
        clear ho he3 e2 HC2
        refine wpZ_u ?_
        refine stepH_of (fun K hK => ?_)
        rw [if_pos (by rfl)]
        refine her_push w1 (.tmp 61) (.tmp 63) 31 rfl 3 Try.underlying31 info_int rfl (by decide) _ b.length ((ci b).map (Value.int .i64)) rfl HO4.out E4.out _ 1 1 [.int .i64 k] rfl rfl HC4.out (by intro u hu; simp at hu; subst hu; rfl) (by omega) (by omega) (by decide) ?_
        intro g cap w5 ho5 he5 hg5
        refine hK _ _ (grown_below hg5 HO4.out (Nat.le_refl _) E4.out.size) ?_; clear hK K
        have HE5 := hid he5
        have HO5 := hid (show w5.ownsRow w1.heap.size 3 1 (.slice (some ⟨g, 0, none⟩) (b.length + 1) cap) (b.length + 1) ((ci (b ++ [k])).map (Value.int .i64)) by rw [ci_app, List.map_append]; exact ho5)
        clear ho5 he5 hg5
        refine wpZ_u ?_
        refine stepH_of (fun K hK => ?_)
        go_simp
        refine (IH.out (b ++ [k]) (some ⟨g, 0, none⟩) (b.length + 1) cap w5 (HL.out.ext (E1.out.trans HE5.out)) (HGR.out.ext (E1.out.trans HE5.out)) (HHR.out.ext (E1.out.trans HE5.out)) (Row.of_own HO5.out) (by simp) (HB.out.snoc hlt hc) (by omega) (by intro h; cases h) (own_cap HO5.out)).mono ?_
        rintro _ w6 ⟨g2, c2, rfl, ho6, he6⟩
        refine ⟨_, rfl, hK _ _ (ext_below he6 HE5.out.size) ?_⟩; clear hK K
        have E6 := hid (E1.out.trans (HE5.out.trans he6))
        have HO6 := hid (own_base (base' := wb.heap.size) ho6 ((HE.out.trans (E1.out.trans HE5.out)).size))
        clear ho6 he6 HO5 HE5 HO4 E4 HC4 E1
        ((first | refine wpZ_u ?_ | skip); refine stepH_of (fun K hK => ?_); go_simp; refine hK _ _ (Below.refl _ _) ?_; clear hK K)
        (refine wpZ_q (fun K hK => ?_); go_simp; refine hK _ ?_; clear hK K)
        (refine wpZ_q (fun K hK => ?_); go_simp; refine hK _ ?_; clear hK K)
        ((first | refine wpZ_u ?_ | skip); refine stepH_of (fun K hK => ?_); go_simp; refine hK _ _ (Below.refl _ _) ?_; clear hK K)
        ((first | refine wpZ_u ?_ | skip); refine stepH_of (fun K hK => ?_); go_simp; refine hK _ _ (Below.refl _ _) ?_; clear hK K)
        refine wpZ_nil ?_
        have hF := hid (show dispF (dd h l gs hs) gs.length r b k = some (disp (dd h l gs hs) gs.length r (b ++ [k])) by unfold dispF; rw [hc]; simp)
        obtain ⟨y, hy⟩ : ∃ y, y = disp (dd h l gs hs) gs.length r (b ++ [k]) := ⟨_, rfl⟩
        rw [← hy] at hF HO6 ⊢
        clear hy
        rcases hacc with ⟨hn, rfl, rfl⟩ | ⟨x, gx, cx, hs, rfl, rfl, hox⟩
        · have HN := hid hn
          have HR := hid (accTo_first hF.out hn)
          clear hn
          go_wp2_with fail
          go_roundw
          case rel => exact ⟨k + 1, by omega, by go_num, HE.out.trans E6.out, .inr ⟨y, g2, c2, HR.out, rfl, rfl, HO6.out⟩⟩
          case measure => simp [intOf]; omega
        · have HOX := hid (own_ext hox E6.out)
          clear hox
          by_cases hlt2 : y.2 < x.2
          · have HR := hid (accTo_less hF.out hs hlt2)
            clear hs
            go_wp2_with fail
            go_roundw
            case rel => exact ⟨k + 1, by omega, by go_num, HE.out.trans E6.out, .inr ⟨y, g2, c2, HR.out, rfl, rfl, HO6.out⟩⟩
            case measure => simp [intOf]; omega
          · have HR := hid (accTo_more hF.out hs hlt2)
            clear hs
            go_wp2_with fail
            go_roundw
            case rel => exact ⟨k + 1, by omega, by go_num, HE.out.trans E6.out, .inr ⟨x, gx, cx, HR.out, rfl, rfl, HOX.out⟩⟩
            case measure => simp [intOf]; omega
    · have hkG : k = gs.length := by omega
      have hbs := disp_succ (dd h l gs hs) gs.length r b
      rw [hkG] at hacc
      rcases accTo_spec (dispF (dd h l gs hs) gs.length r b) gs.length with ⟨_, h2⟩ | ⟨j, x, hj, hxj, ha, -, -⟩
      · exfalso
        obtain ⟨q, hq, hc⟩ := HB.out.free (by omega)
        have := h2 q hq
        unfold dispF at this
        rw [hc] at this
        simp at this
      · rw [ha] at hbs hacc
        have HBS := hid (show disp (dd h l gs hs) gs.length (r + 1) b = x from hbs)
        rcases hacc with ⟨hn, _⟩ | ⟨x', gx, cx, hs', rfl, rfl, hox⟩
        · cases hn
        · cases hs'
          have HOX := hid hox
          clear hox ha hbs hxj hkG
          go_wp2_with fail
          refine bodyPost_ret (v := .tuple #[.slice (some ⟨gx, 0, none⟩) hs.length cx, .int .i64 x.2]) (by simp [results, Try.results60, go_sem]) rfl ?_
          rw [HBS.out]
          exact ⟨gx, cx, rfl, own_base HOX.out (by have := hsz.out; omega), hew.trans HE.out⟩
theorem disp_any (h : Nat) (A : Option Addr) (c : Nat) (l : List T2) (gs hs : List Int) (GA HA : Option Addr) (gc hc' : Nat) (hk : houseOk h l = true) (hg : InH h gs) (hh : InH h hs) (hG5 : gs.length ≤ 5) (hm1 : 1 ≤ hs.length) (hmG : hs.length ≤ gs.length) : ∀ r, DispAt l h A c gs hs GA HA gc hc' r
  | 0 => disp_zero h A c l gs hs GA HA gc hc' hk hg hh hG5 hm1 hmG
  | r + 1 => disp_next h A c l gs hs GA HA gc hc' hG5 hmG r (disp_any h A c l gs hs GA HA gc hc' hk hg hh hG5 hm1 hmG r)
end Go.Proofs.Ytngniniiohgilaa
