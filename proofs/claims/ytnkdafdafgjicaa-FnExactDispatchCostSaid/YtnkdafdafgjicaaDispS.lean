/- Walks: DispatchCost of the reference. Conditions: sizes. -/
import Derived.Test.YtnkdafdafgjicaaDispJ
import Derived.Test.YtnkdafdafgjicaaHallsS
import Derived.Test.YtnkdafdafgjicaaBits
namespace Go.Proofs.Ytnkdafdafgjicaa
open Go.RowKit
set_option linter.unusedVariables false

def resL (o : Option (List Nat × Int)) : List Nat × Int := o.getD ([], -1)
def LeftAt (l : List T2) (h : Nat) (A : Option Addr) (c : Nat) (gs hs : List Int) (GA : Option Addr) (gc r : Nat) : Prop :=
  ∀ (n S : Nat) (HA : Option Addr) (hc : Nat) (w : World), Row w A (l.flatMap T2.v) → Row w GA (gs.map (Value.int .i64)) → Row w HA ((hs.drop n).map (Value.int .i64)) → n + r = hs.length → S < 128 → r ≤ hc →
    Calls Try.prog 57 #[.agg #[.int .i64 h, .slice A l.length c], .slice GA gs.length gc, .slice HA r hc, .int .i64 S] w fun en w' => ∃ A' c', en = .returned (.tuple #[.slice A' (resL (left (dd h l gs hs) gs.length r n S)).1.length c', .int .i64 (resL (left (dd h l gs hs) gs.length r n S)).2]) ∧
      w'.ownsRow w.heap.size 3 1 (.slice A' (resL (left (dd h l gs hs) gs.length r n S)).1.length c') (resL (left (dd h l gs hs) gs.length r n S)).1.length ((ci (resL (left (dd h l gs hs) gs.length r n S)).1).map (Value.int .i64)) ∧ Ext w w'
set_option maxHeartbeats 3200000 in
set_option maxRecDepth 100000 in
theorem left_zero (h : Nat) (A : Option Addr) (c : Nat) (l : List T2) (gs hs : List Int) (GA : Option Addr) (gc : Nat) : LeftAt l h A c gs hs GA gc 0 := by
  intro n S HA hc w hl hgr hhr hn hS hcap
  have HO := hid (own_empty (w.alloc (.cells #[.int .i64 ↑h, .slice A l.length c] 30)) (w.heap.size + 1) w.heap.size (by simp) (by simp) 3 1)
  go_enter Try.func57, Try.ntmps57
  go_wp2_with fail
  refine bodyPost_ret (v := .tuple #[.slice (some ⟨w.heap.size + 1, 0, none⟩) 0 0, .int .i64 0]) (by simp [results, Try.results57, go_sem]) rfl ?_
  exact ⟨_, _, rfl, HO.out, by repeat (first | exact Ext.refl _ | refine Ext.alloc ?_ _ | assumption | refine Ext.over ?_ _ | refine Ext.drew ?_ | refine Ext.drewN ?_ _)⟩
theorem Row.tail {w : World} {b off : Nat} {l : List Int} {n c : Nat} (h : Row w (some ⟨b, off, none⟩) ((l.drop n).map (Value.int .i64))) (hc : l.length ≤ n + c) : Row w (if c = 1 then some ⟨b, off, none⟩ else some ⟨b, off + 1, none⟩) ((l.drop (n + 1)).map (Value.int .i64)) := by
  intro hne
  have hlen : n + 1 < l.length := by
    rcases Nat.lt_or_ge (n + 1) l.length with h1 | h1
    · exact h1
    · exfalso; apply hne; rw [List.drop_eq_nil_of_le h1]; rfl
  have h0 : (l.drop n).map (Value.int .i64) ≠ [] := fun e => by
    have := congrArg List.length e
    simp at this
    omega
  obtain ⟨b', off', hA, hcell⟩ := h h0
  injection hA with hA
  injection hA with h1 h2
  subst h1 h2
  rw [if_neg (by omega)]
  refine ⟨b, off + 1, rfl, fun j u hu => ?_⟩
  have := hcell (j + 1) u (by
    rw [List.getElem?_map, List.getElem?_drop] at hu ⊢
    rw [show n + (j + 1) = n + 1 + j by omega]; exact hu)
  rwa [show off + (j + 1) = off + 1 + j by omega] at this
theorem leftF_acc {D : Nat → Nat → Int} {G r n S k : Nat} (hD : ∀ x i, 0 ≤ D x i ∧ D x i ≤ 7) (hr : r ≤ 5) {x : List Nat × Int} (h : accTo (leftF D G r n S) k = some x) : 0 ≤ x.2 ∧ x.2 ≤ 100 := by
  rcases accTo_spec (leftF D G r n S) k with ⟨h1, _⟩ | ⟨j, y, hj, hy, ha, -, -⟩
  · rw [h1] at h; cases h
  · rw [ha] at h
    cases h
    unfold leftF at hy
    split at hy
    · cases hy
    · cases hq : left D G r (n + 1) (S ||| 2 ^ j) with
      | none => rw [hq] at hy; cases hy
      | some z =>
        rw [hq] at hy
        cases hy
        have h1 := left_some hD r (n + 1) (S ||| 2 ^ j) z hq
        have h2 := hD j n
        show 0 ≤ z.2 + D j n ∧ z.2 + D j n ≤ 100
        omega
set_option maxHeartbeats 6400000 in
set_option maxRecDepth 100000 in
theorem left_next (h : Nat) (A : Option Addr) (c : Nat) (l : List T2) (gs hs : List Int) (GA : Option Addr) (gc : Nat) (hk : houseOk h l = true) (hg : InH h gs) (hh : InH h hs) (hG5 : gs.length ≤ 5) (hmG : hs.length ≤ gs.length) (r : Nat) (ih : LeftAt l h A c gs hs GA gc r) : LeftAt l h A c gs hs GA gc (r + 1) := by
  intro n S HA hc w hl hgr hhr hn hS hcap
  obtain ⟨hf, h1, h7, h12⟩ := houseOk_bounds hk
  have HDB := hid (dd_bound hk hg hh)
  have HG := hid hg
  have IH := hid ih
  have hnm : n < hs.length := by omega
  have ix := hh n hnm
  obtain ⟨x0, hx0⟩ : ∃ u : Nat, u = (atI hs n).toNat := ⟨_, rfl⟩
  have hx0' : atI hs n = x0 := by omega
  have hx0h : x0 < h := by omega
  have HX0 := hid hx0
  have hne : (((r : Int) + 1) == 0) = false := by rw [beq_eq_false_iff_ne]; omega
  have hcell : ∃ b off, HA = some ⟨b, off, none⟩ ∧ w.cell? ⟨b, off, none⟩ = some (.int .i64 x0) := by
    obtain ⟨b, off, hA, hc⟩ := hhr (fun e => by have := congrArg List.length e; simp at this; omega)
    refine ⟨b, off, hA, ?_⟩
    have := hc 0 (.int .i64 x0) (by rw [List.getElem?_map, List.getElem?_drop, Nat.add_zero, List.getElem?_eq_getElem hnm, ← atI_eq _ _ hnm, hx0']; rfl)
    simpa using this
  obtain ⟨hb, hoff, rfl, hc0⟩ := hcell
  have HT := hid (hhr.tail (c := hc) (by omega))
  have h7' : h ≤ 7 := by omega
  clear hf hg hk ih hx0 hx0' ix hh hhr
  go_enter Try.func57, Try.ntmps57
  go_wp2_with fail
  refine wp_region_x [.q 0, .q 1, .q 2, .q 3, .u 4, .u 5] (by kernel_rfl) (by kernel_rfl) (fun w1 e1 => ?_)
  obtain ⟨wb, hwb⟩ : ∃ wb, wb = w.alloc (.cells #[.int .i64 ↑h, .slice A l.length c] 30) := ⟨_, rfl⟩
  have hew : Ext w wb := by rw [hwb]; repeat (first | exact Ext.refl _ | refine Ext.alloc ?_ _ | assumption | refine Ext.over ?_ _ | refine Ext.drew ?_ | refine Ext.drewN ?_ _)
  have hsz := hid (show wb.heap.size = w.heap.size + 1 by rw [hwb]; simp)
  have hb0 : wb.cell? ⟨w.heap.size, 0, none⟩ = some (.int .i64 ↑h) := by rw [hwb]; go_simp
  have hb1 : wb.cell? ⟨w.heap.size, 1, none⟩ = some (.slice A l.length c) := by rw [hwb]; go_simp
  rw [← hwb] at e1
  have b0 := old_cell e1 hb0
  have b1 := old_cell e1 hb1
  have c0 := old_cell (hew.trans e1) hc0
  have E1 := hid (hew.trans e1)
  clear hwb e1 hc0
  simp only [pick, List.getElem?_cons_succ, List.getElem?_cons_zero]
  repeat (refine wpZ_q (fun K hK => ?_); go_simp; refine hK _ ?_; clear hK K)
  refine wpZ_u ?_
  refine stepH_of (fun K hK => ?_)
  go_simp
  refine (l23Distances_any h A l.length c l x0 w1 (hl.ext E1.out) rfl h12 h7' hx0h).mono ?_
  rintro _ w2 ⟨gd, rfl, ho, he2⟩
  refine ⟨_, rfl, hK _ _ he2 ?_⟩; clear hK K
  have p0 := old_cell he2 b0
  have p1 := old_cell he2 b1
  have E2 := hid (E1.out.trans he2)
  have HO := hid ho
  clear ho he2 b0 b1 c0 E1 hb0 hb1
  ((first | refine wpZ_u ?_ | skip); refine stepH_of (fun K hK => ?_); go_simp; refine hK _ _ (Below.refl _ _) ?_; clear hK K)
  refine wpZ_nil ?_
  go_wp2_with fail
  obtain ⟨wc, hwc⟩ : ∃ wc, wc = w2.alloc (.cells #[] 3) := ⟨_, rfl⟩
  have hec : Ext w2 wc := by rw [hwc]; repeat (first | exact Ext.refl _ | refine Ext.alloc ?_ _ | assumption | refine Ext.over ?_ _ | refine Ext.drew ?_ | refine Ext.drewN ?_ _)
  have HOE := hid (show wc.ownsRow w.heap.size 3 1 (.slice (some ⟨w2.heap.size, 0, none⟩) 0 0) 0 [] by rw [hwc]; exact own_empty _ _ _ rfl E2.out.size _ _)
  have HRES := hid (left_succ (dd h l gs hs) gs.length r n S)
  have HDC := hid (show ∀ u, u < h → wc.cell? ⟨gd, u, none⟩ = some (.int .i64 (dist h (adjD l) x0 u)) from fun u hu => old_cell hec (by rw [HO.out.cellAt u (by omega)]; exact distC_get hu))
  have p0 := old_cell hec p0
  have p1 := old_cell hec p1
  have EC := hid (E2.out.trans hec)
  go_loopw [11, 12, 13] (fun bv ov kv wr => ∃ (k : Nat) (A' : Option Addr) (c' : Nat), k ≤ gs.length ∧ kv = .int .i64 ↑k ∧ bv = .int .i64 (resL (accTo (leftF (dd h l gs hs) gs.length r n S) k)).2 ∧ ov = .slice A' (resL (accTo (leftF (dd h l gs hs) gs.length r n S) k)).1.length c' ∧ wr.ownsRow w.heap.size 3 1 (.slice A' (resL (accTo (leftF (dd h l gs hs) gs.length r n S) k)).1.length c') (resL (accTo (leftF (dd h l gs hs) gs.length r n S) k)).1.length ((ci (resL (accTo (leftF (dd h l gs hs) gs.length r n S) k)).1).map (Value.int .i64)) ∧ Ext wc wr) (fun _ _ kv _ => gs.length - (intOf kv).toNat)
  case atStart => exact ⟨0, _, _, by omega, rfl, rfl, rfl, by rw [← hwc]; exact HOE.out, by rw [hwc]; repeat (first | exact Ext.refl _ | refine Ext.alloc ?_ _ | assumption | refine Ext.over ?_ _ | refine Ext.drew ?_ | refine Ext.drewN ?_ _)⟩
  clear hwc
  case round =>
    rename World => wo
    obtain ⟨k, A', c', hk, rfl, rfl, rfl, hown, he⟩ := hrel
    have HE := hid he
    have HEW := hid (EC.out.trans he)
    have HL := hid (hl.ext HEW.out)
    have HGR := hid (hgr.ext HEW.out)
    have hgr2 := HGR.out
    have HTR := hid (HT.out.ext HEW.out)
    have b0 := old_cell he p0
    have b1 := old_cell he p1
    have HDW := hid (show ∀ u, u < h → wo.cell? ⟨gd, u, none⟩ = some (.int .i64 (dist h (adjD l) x0 u)) from fun u hu => old_cell he (HDC.out u hu))
    obtain ⟨acc, hacc⟩ : ∃ acc, acc = accTo (leftF (dd h l gs hs) gs.length r n S) k := ⟨_, rfl⟩
    rw [← hacc] at hown ⊢
    have HACC := hid hacc.symm
    have HOW := hid hown
    clear he hown hacc
    by_cases hlt : k < gs.length
    · cases hb' : S.testBit k
      rotate_left
      · obtain ⟨e0, e1⟩ := bit_yes (k := k) (show S < 256 by omega) hb'
        have HN := hid (show accTo (leftF (dd h l gs hs) gs.length r n S) (k + 1) = acc by rw [accTo_skip (by unfold leftF; rw [hb']; simp), HACC.out])
        clear hgr2
        go_wp2_with fail
        go_roundw
        case rel => exact ⟨k + 1, A', c', by omega, by go_num, by rw [HN.out], by rw [HN.out], by rw [HN.out]; exact HOW.out, HE.out⟩
        case measure => simp [intOf]; omega
      obtain ⟨e0, e1⟩ := bit_no (k := k) (show S < 256 by omega) hb'
      obtain ⟨hor, hor'⟩ := or_bit hS (show k < 7 by omega)
      obtain ⟨Q, hQ⟩ : ∃ Q, Q = S ||| 2 ^ k := ⟨_, rfl⟩
      rw [← hQ] at hor hor'
      have hor2 : bits .or .i64 (S : Int) (IntKind.i64.wrap (2 ^ k)) = (Q : Int) := by rw [IntWalk.i64_left]; exact hor
      have HQ := hid hQ.symm
      have hF : leftF (dd h l gs hs) gs.length r n S k = (left (dd h l gs hs) gs.length r (n + 1) Q).map fun x => (k :: x.1, x.2 + dd h l gs hs k n) := by
        unfold leftF; rw [hb', hQ]; rfl
      have HF := hid hF
      obtain ⟨gb, goff, rfl, hgc⟩ := hgr2.ints hlt
      have c1 := hgc k hlt
      have ig := HG.out k hlt
      obtain ⟨u, hu⟩ : ∃ u : Nat, u = (atI gs k).toNat := ⟨_, rfl⟩
      rw [show atI gs k = (u : Int) by omega] at c1
      have q1 : u < h := by omega
      have hdv : dist h (adjD l) x0 u = dd h l gs hs k n := by
        rw [dd_in hlt hnm, ← HX0.out, ← hu, dist_symm hx0h q1 (adjD_symm l)]
      have hdb := HDB.out k n
      obtain ⟨y, hy⟩ : ∃ y, y = dd h l gs hs k n := ⟨_, rfl⟩
      rw [← hy] at hdb hdv
      have c2 := HDW.out u q1
      rw [hdv] at c2
      have HY := hid hy.symm
      have hcap1 : 1 ≤ hc := by omega
      clear hQ hF hgc hgr2 ig hu hdv hy
      go_wp2_with fail
      refine wp_region_x [.q 0, .q 1, .q 2, .q 3, .q 4, .q 5, .q 6, .q 7, .u 8, .u 9, .q 10, .q 11, .u 12, .u 13] (by kernel_rfl) (by kernel_rfl) (fun w3 e3 => ?_)
      have b0 := old_cell e3 b0
      have b1 := old_cell e3 b1
      have c1 := old_cell e3 c1
      have c2 := old_cell e3 c2
      have E3 := hid e3
      clear e3
      simp only [pick, List.getElem?_cons_succ, List.getElem?_cons_zero]
      have h1r : (1 : Int) ≤ (r : Int) + 1 := by omega
      repeat (refine wpZ_q (fun K hK => ?_); go_simp; refine hK _ ?_; clear hK K)
      refine wpZ_u ?_
      refine stepH_of (fun K hK => ?_)
      go_simp
      refine (IH.out (n + 1) Q _ (hc - 1) w3 (HL.out.ext E3.out) (HGR.out.ext E3.out) (HTR.out.ext E3.out) (by omega) hor' (by omega)).mono ?_
      rintro _ w4 ⟨A4, c4, rfl, ho4, he4⟩
      refine ⟨_, rfl, hK _ _ he4 ?_⟩; clear hK K
      have c1 := old_cell he4 c1
      have c2 := old_cell he4 c2
      have HO4 := hid ho4
      have E4 := hid (E3.out.trans he4)
      have HS4 := hid he4.size
      have hbase := (HEW.out.trans E3.out).size
      have HBS := hid hbase
      clear ho4 he4 b0 b1 hbase
      have HZ := hid (left_some (G := gs.length) HDB.out r (n + 1) Q)
      have hr5 : r ≤ 5 := by omega
      generalize left (dd h l gs hs) gs.length r (n + 1) Q = q at HO4 HF HZ ⊢
      ((first | refine wpZ_u ?_ | skip); refine stepH_of (fun K hK => ?_); go_simp; refine hK _ _ (Below.refl _ _) ?_; clear hK K)
      (refine wpZ_q (fun K hK => ?_); go_simp; refine hK _ ?_; clear hK K)
      (refine wpZ_q (fun K hK => ?_); go_simp; refine hK _ ?_; clear hK K)
      ((first | refine wpZ_u ?_ | skip); refine stepH_of (fun K hK => ?_); go_simp; refine hK _ _ (Below.refl _ _) ?_; clear hK K)
      ((first | refine wpZ_u ?_ | skip); refine stepH_of (fun K hK => ?_); go_simp; refine hK _ _ (Below.refl _ _) ?_; clear hK K)
      refine wpZ_nil ?_
      generalize (if hc = 1 then some (⟨hb, hoff, none⟩ : Addr) else some ⟨hb, hoff + 1, none⟩) = TA
      cases q with
      | none =>
        have HN := hid (show accTo (leftF (dd h l gs hs) gs.length r n S) (k + 1) = acc by rw [accTo_skip (by rw [HF.out]; rfl), HACC.out])
        have hm1 : (resL (none : Option (List Nat × Int))).2 = -1 := rfl
        rw [hm1]
        clear c1 c2
        go_wp2_with fail
        go_roundw
        case rel => exact ⟨k + 1, A', c', by omega, by go_num, by rw [HN.out], by rw [HN.out], by rw [HN.out]; exact own_ext HOW.out E4.out, HE.out.trans E4.out⟩
        case measure => simp [intOf]; omega
      | some z =>
        have HZF := hid (show leftF (dd h l gs hs) gs.length r n S k = some (k :: z.1, z.2 + y) by rw [HF.out, ← HY.out]; rfl)
        have hz : resL (some z) = z := rfl
        rw [hz] at HO4 ⊢
        have hzb := HZ.out z rfl
        have hz0 : 0 ≤ z.2 ∧ z.2 ≤ 35 := ⟨hzb.1, by have := hzb.2.1; omega⟩
        have hzl : z.1.length ≤ 5 := by have := hzb.2.2.1; omega
        clear hz hzb
        obtain ⟨zl, zv⟩ := z
        simp only at HZF hz0 hzl HO4 ⊢
        cases acc with
        | none =>
          have HN := hid (accTo_first HZF.out HACC.out)
          have hm1 : (resL (none : Option (List Nat × Int))).2 = -1 := rfl
          rw [hm1]
          go_wp2_with (at_builtin; refine wpList_pushS (w4) rfl (.tmp 78) (.tmp 79) 25 rfl 3 Try.underlying25 info_int rfl (by decide) _ 1 [.int .i64 k] rfl _ (World.ownsRow_lit (base := w4.heap.size) (e := 3) (size := 1) w4 #[.int .i64 ↑k] 1 (Nat.le_refl _) (by decide) rfl) (by repeat (first | exact Ext.refl _ | refine Ext.alloc ?_ _ | assumption | refine Ext.over ?_ _ | refine Ext.drew ?_ | refine Ext.drewN ?_ _)) (by repeat (first | exact Ext.refl _ | refine Ext.alloc ?_ _ | assumption | refine Ext.over ?_ _ | refine Ext.drew ?_ | refine Ext.drewN ?_ _)) A4 zl.length c4 ((ci zl).map (Value.int .i64)) rfl (own_none HO4.out) (by simp [ci_len]) ((Row.of_own HO4.out).ext (by repeat (first | exact Ext.refl _ | refine Ext.alloc ?_ _ | assumption | refine Ext.over ?_ _ | refine Ext.drew ?_ | refine Ext.drewN ?_ _))) (by intro u hu; obtain ⟨q, _, rfl⟩ := List.mem_map.1 hu; rfl) (by omega) (by decide) ?_)
          intro A5 c5 w5 ho5 he5
          have HO5 := hid (own_base (base' := w.heap.size) ho5 (Nat.le_trans HBS.out HS4.out))
          have E5 := hid (E4.out.trans he5)
          clear ho5 he5 c1 c2
          go_wp2_with fail
          go_roundw
          case rel =>
            refine ⟨k + 1, A5, c5, by omega, by go_num, by rw [HN.out]; rfl, ?_, ?_, HE.out.trans E5.out⟩
            · rw [HN.out]; show _ = Value.slice A5 (zl.length + 1) c5; rw [Nat.add_comm]
            · rw [HN.out]
              show World.ownsRow _ _ _ _ (.slice A5 (zl.length + 1) c5) (zl.length + 1) _
              rw [Nat.add_comm]; exact HO5.out
          case measure => simp [intOf]; omega
        | some x =>
          have hx1 : resL (some x) = x := rfl
          rw [hx1] at HOW ⊢
          have hxb : 0 ≤ x.2 ∧ x.2 ≤ 100 := leftF_acc HDB.out (by omega) HACC.out
          by_cases hlt2 : zv + y < x.2
          · have HN := hid (accTo_less HZF.out HACC.out hlt2)
            go_wp2_with (at_builtin; refine wpList_pushS (w4) rfl (.tmp 78) (.tmp 79) 25 rfl 3 Try.underlying25 info_int rfl (by decide) _ 1 [.int .i64 k] rfl _ (World.ownsRow_lit (base := w4.heap.size) (e := 3) (size := 1) w4 #[.int .i64 ↑k] 1 (Nat.le_refl _) (by decide) rfl) (by repeat (first | exact Ext.refl _ | refine Ext.alloc ?_ _ | assumption | refine Ext.over ?_ _ | refine Ext.drew ?_ | refine Ext.drewN ?_ _)) (by repeat (first | exact Ext.refl _ | refine Ext.alloc ?_ _ | assumption | refine Ext.over ?_ _ | refine Ext.drew ?_ | refine Ext.drewN ?_ _)) A4 zl.length c4 ((ci zl).map (Value.int .i64)) rfl (own_none HO4.out) (by simp [ci_len]) ((Row.of_own HO4.out).ext (by repeat (first | exact Ext.refl _ | refine Ext.alloc ?_ _ | assumption | refine Ext.over ?_ _ | refine Ext.drew ?_ | refine Ext.drewN ?_ _))) (by intro u hu; obtain ⟨q, _, rfl⟩ := List.mem_map.1 hu; rfl) (by omega) (by decide) ?_)
            intro A5 c5 w5 ho5 he5
            have HO5 := hid (own_base (base' := w.heap.size) ho5 (Nat.le_trans HBS.out HS4.out))
            have E5 := hid (E4.out.trans he5)
            clear ho5 he5 c1 c2
            go_wp2_with fail
            go_roundw
            case rel =>
              refine ⟨k + 1, A5, c5, by omega, by go_num, by rw [HN.out]; rfl, ?_, ?_, HE.out.trans E5.out⟩
              · rw [HN.out]; show _ = Value.slice A5 (zl.length + 1) c5; rw [Nat.add_comm]
              · rw [HN.out]
                show World.ownsRow _ _ _ _ (.slice A5 (zl.length + 1) c5) (zl.length + 1) _
                rw [Nat.add_comm]; exact HO5.out
            case measure => simp [intOf]; omega
          · have HN := hid (accTo_more HZF.out HACC.out hlt2)
            go_wp2_with fail
            go_roundw
            case rel => exact ⟨k + 1, A', c', by omega, by go_num, by rw [HN.out]; rfl, by rw [HN.out]; rfl, by rw [HN.out]; exact own_ext HOW.out E4.out, HE.out.trans E4.out⟩
            case measure => simp [intOf]; omega
    · have hkG : k = gs.length := by omega
      have HR := hid (show acc = left (dd h l gs hs) gs.length (r + 1) n S by rw [HRES.out, ← HACC.out, hkG])
      clear hgr2 hkG
      go_wp2_with fail
      refine bodyPost_ret (v := .tuple #[.slice A' (resL acc).1.length c', .int .i64 (resL acc).2]) (by simp [results, Try.results57, go_sem]) rfl ?_
      rw [HR.out] at HOW ⊢
      exact ⟨_, _, rfl, HOW.out, HEW.out⟩
end Go.Proofs.Ytnkdafdafgjicaa
