/- Walks: the reference's pieces from every corner to a point. Conditions: a valid room. -/
import Derived.Test.YtkifapcegiajiaaPieceP
import Derived.Test.YtkifapcegiajiaaQueue
import Derived.Test.YtkifapcegiajiaaSeesS
namespace Go.Proofs.Ytkifapcegiajiaa
open Go.RowKit
set_option linter.unusedVariables false

theorem info_intP : (Try.prog.info? 3).map (fun i => (i.zero, i.size, i.bytes)) = some (some (.int .i64 0), 1, 8) := by kernel_rfl
def vl (l : List Nat) : List Value := l.map fun (x : Nat) => .int .i64 (x : Int)
theorem vl_len (l : List Nat) : (vl l).length = l.length := by simp [vl]
theorem vl_snoc (l : List Nat) (x : Nat) : vl (l ++ [x]) = vl l ++ [.int .i64 (x : Int)] := by simp [vl]
/-- A box of a point lies at the first new block. -/
def Bq (qa qb : Int) (w wr : World) : Prop := Ext w wr ∧ wr.cell? ⟨w.heap.size, 0, none⟩ = some (.int .i64 qa) ∧ wr.cell? ⟨w.heap.size, 1, none⟩ = some (.int .i64 qb)
theorem Bq.grown {qa qb : Int} {k : Nat} {w wr w' : World} (b : Bq qa qb w wr) (hg : wr.grownBy w' (some k)) (hk : w.heap.size < k) : Bq qa qb w w' := by
  obtain ⟨b1, b2, b3⟩ := b
  have hlt := World.block_lt_of_cell? wr _ b2
  have hb : w'.heap[w.heap.size]? = wr.heap[w.heap.size]? := hg.block _ hlt (by intro e; injection e; omega)
  exact ⟨Below.grown b1 hg b1.size (fun j hj => by injection hj with hj; omega), (World.cell?_of_block hb).trans b2, (World.cell?_of_block hb).trans b3⟩
theorem Bq.ext {qa qb : Int} {w wr w' : World} (b : Bq qa qb w wr) (he : Ext wr w') : Bq qa qb w w' := ⟨b.1.trans he, old_cell he b.2.1, old_cell he b.2.2⟩
def Upto (L : List T2) (q : T2) (k : Nat) (cs : List Value) : Prop := ∀ j, j < k → cs[j]? = some (.int .i64 (dv L q [rt L] j))
set_option maxHeartbeats 1600000 in
set_option maxRecDepth 100000 in
theorem l21Pieces_any (A : Option Addr) (n c : Nat) (L : List T2) (q : T2) (w : World) (hl : Row w A (L.flatMap T2.v)) (hn : L.length = n) (hro : roomS L = true) :
    Calls Try.prog 57 #[.slice A n c, ptV q] w fun en w' => ∃ g, en = .returned (.slice (some ⟨g, 0, none⟩) n n) ∧ w'.ownsRow w.heap.size 3 1 (.slice (some ⟨g, 0, none⟩) n n) n ((List.range n).map fun v => .int .i64 (distF L L q v)) ∧ Ext w w' := by
  obtain ⟨i0, hi, hz0, hz1, hz2⟩ := info_parts info_intP
  have HSE := hid (fun a b w' (h : Row w' A (L.flatMap T2.v)) => l08Sees_any A n c L a b w' h hn hro)
  have hn10 : n ≤ 10 := by have := (roomP_of hro).hi; omega
  have HL := hid hl
  clear hl
  subst hn
  obtain ⟨qa, qb⟩ := q
  unfold ptV at *
  go_enter Try.func57, Try.ntmps57
  go_wp2_with (at_make; refine wpList_make_full _ rfl (.tmp 14) (.tmp 14) 28 rfl w.heap.size 3 i0 _ 1 Try.underlying28 hi hz0 hz1 _ _ _ _ L.length rfl rfl rfl rfl (by rw [hz2]; omega) (by unfold maxLen; omega) (by simp) ?_)
  intro w1 hown hg
  have HB := hid (show Bq qa qb w w1 from by
    have hb : w1.heap[w.heap.size]? = (w.alloc (.cells #[.int .i64 qa, .int .i64 qb] 35)).heap[w.heap.size]? := hg.block _ (by simp) (by simp)
    exact ⟨Below.grown (by repeat (first | exact Ext.refl _ | refine Ext.alloc ?_ _ | assumption | refine Ext.over ?_ _ | refine Ext.drew ?_ | refine Ext.drewN ?_ _)) hg (by simp) (by simp), (World.cell?_of_block hb).trans (by go_simp), (World.cell?_of_block hb).trans (by go_simp)⟩)
  obtain ⟨gd, hgd⟩ : ∃ gd, gd = w.heap.size + 1 := ⟨_, rfl⟩
  have HGD := hid (show w.heap.size < gd by omega)
  rw [← hgd] at hown ⊢
  have HO := hid hown
  clear hgd hown hg hz0 hz1 hz2 hi
  go_wp2_with fail
  have HGB := hid ((HO.out.lt gd rfl).2)
  have hQ0 := own_empty w1 w1.heap.size w1.heap.size rfl (Nat.le_refl _) 3 1
  have HQ0 := hid (show QAt w1.heap.size 3 (w1.alloc (.cells #[] 3)) (some ⟨w1.heap.size, 0, none⟩) 0 0 [] from own_whole hQ0 (by simp))
  clear hQ0
  go_loopw [7, 8] (fun lv kv wr => ∃ (k gL oL cL : Nat) (cs : List Value), k ≤ L.length ∧ kv = .int .i64 ↑k ∧ lv = .slice (some ⟨gL, oL, none⟩) (listE L ⟨qa, qb⟩ k).length cL ∧ QAt w1.heap.size 3 wr (some ⟨gL, oL, none⟩) (listE L ⟨qa, qb⟩ k).length cL (vl (listE L ⟨qa, qb⟩ k)) ∧
    wr.ownsRow w.heap.size 3 1 (.slice (some ⟨gd, 0, none⟩) L.length L.length) L.length cs ∧ Upto L ⟨qa, qb⟩ k cs ∧ Bq qa qb w wr ∧ w1.heap.size ≤ wr.heap.size) (fun _ kv _ => L.length - (intOf kv).toNat)
  case atStart => exact ⟨0, w1.heap.size, 0, 0, _, Nat.zero_le _, rfl, rfl, HQ0.out, own_ext HO.out (by repeat (first | exact Ext.refl _ | refine Ext.alloc ?_ _ | assumption | refine Ext.over ?_ _ | refine Ext.drew ?_ | refine Ext.drewN ?_ _)), fun j hj => by omega, HB.out.ext (by repeat (first | exact Ext.refl _ | refine Ext.alloc ?_ _ | assumption | refine Ext.over ?_ _ | refine Ext.drew ?_ | refine Ext.drewN ?_ _)), by simp⟩
  case round =>
    obtain ⟨k, gL, oL, cL, cs, hk, rfl, rfl, hQ, hD, hU, hbq, hsz⟩ := hrel
    clear HQ0 HO HB
    have HGL := hid (show w1.heap.size ≤ gL from by
      obtain ⟨_, _, hA, h3, _⟩ := hQ.at_
      injection hA with hA; injection hA with hA1 hA2; omega)
    have HQ := hid hQ
    have HD := hid hD
    have HU := hid hU
    have HX := hid hbq
    have b0 := hbq.2.1
    have b1 := hbq.2.2
    clear hQ hD hU hbq
    by_cases hlt : k < L.length
    · have hst := HD.out.stored k (.int .i64 (-1))
      have f1 := HD.out.frozenAt k
      obtain ⟨u, c1⟩ : ∃ u, wr.cell? ⟨gd, k, none⟩ = some u := by
        rw [HD.out.cellAt k (by omega)]
        have := HD.out.1
        exact ⟨_, List.getElem?_eq_getElem (by omega)⟩
      have HST := hid hst
      have HXV := hid (HX.out.grown hst.2 HGD.out)
      have HQV := hid (HQ.out.kept hst.2 HGB.out)
      have hkt : (k : Int) < L.length := by omega
      have hsv : w1.heap.size ≤ (wr.setCell ⟨gd, k, none⟩ (.int .i64 (-1))).heap.size := by rw [World.size_setCell]; exact hsz
      have HUV := hid (show Upto L ⟨qa, qb⟩ k (cs.set k (.int .i64 (-1))) from fun j hj => by rw [List.getElem?_set_ne (by omega)]; exact HU.out j hj)
      have HCL := hid (show k < cs.length by have := HD.out.1; omega)
      clear hst
      go_wp2_with fail
      generalize wr.setCell ⟨gd, k, none⟩ (.int .i64 (-1)) = wv at HST HXV HQV hsv ⊢
      have HD2 := hid HST.out.1
      clear HST HX HQ HD HU b0 b1 c1 f1 hsz
      have b0 := HXV.out.2.1
      have b1 := HXV.out.2.2
      obtain ⟨bk, off, hA, hc⟩ := (HL.out.ext HXV.out.1).t2 hlt
      obtain ⟨g0, g1⟩ := hc k hlt
      have HE := hid (show isE L ⟨qa, qb⟩ k = (decide ((at2 L k).a = qa) && decide ((at2 L k).b = qb)) by
        unfold isE
        by_cases h : at2 L k = ⟨qa, qb⟩
        · rw [eqP_iff.2 h, h]; simp
        · have h1 : eqP (at2 L k) ⟨qa, qb⟩ = false := by
            cases h2 : eqP (at2 L k) ⟨qa, qb⟩
            · rfl
            · exact absurd (eqP_iff.1 h2) h
          rw [h1]
          symm
          rw [Bool.and_eq_false_iff]
          by_cases ha : (at2 L k).a = qa
          · right; refine decide_eq_false fun hb => h ?_
            obtain ⟨z, hz⟩ : ∃ z, z = at2 L k := ⟨_, rfl⟩
            rw [← hz] at ha hb ⊢
            cases z; simp only at ha hb; rw [ha, hb]
          · left; exact decide_eq_false ha)
      subst hA
      generalize (at2 L k).a = xa at g0 HE
      generalize (at2 L k).b = xb at g1 HE
      clear hc
      have HNO := hid (show ¬ (xa = qa ∧ xb = qb) → listE L ⟨qa, qb⟩ (k + 1) = listE L ⟨qa, qb⟩ k ∧ Upto L ⟨qa, qb⟩ (k + 1) (cs.set k (.int .i64 (-1))) from fun h => by
        have hes : isE L ⟨qa, qb⟩ k = false := by
          rw [HE.out, Bool.and_eq_false_iff]
          by_cases ha : xa = qa
          · exact .inr (decide_eq_false fun hb => h ⟨ha, hb⟩)
          · exact .inl (decide_eq_false ha)
        refine ⟨listE_no hes, fun j hj => ?_⟩
        by_cases hjk : j = k
        · subst hjk
          rw [List.getElem?_set_self HCL.out]
          unfold dv rt
          rw [hes, if_neg (by simp), distOf_none (by unfold seenIn; simp; omega)]
        · exact HUV.out j (by omega))
      by_cases hxa : xa = qa
      · by_cases hxb : xb = qb
        · have hes : isE L ⟨qa, qb⟩ k = true := by rw [HE.out, decide_eq_true hxa, decide_eq_true hxb]; rfl
          have HL1 := hid (listE_yes hes)
          have HDV := hid (show dv L ⟨qa, qb⟩ [rt L] k = 0 by unfold dv; rw [hes]; rfl)
          clear hes HE HNO
          have hxx : (xa == qa) = true := by simpa using hxa
          have hyy : (xb == qb) = true := by simpa using hxb
          replace hxa := hid hxa
          replace hxb := hid hxb
          (refine wp_region_calm (by kernel_rfl) (by kernel_rfl) ?_; (repeat (go_big_quiet_step (fail))); refine wpQuiet_nil ?_; rintro w1 ⟨x1, rfl⟩)
          have hx1 : Ext wv (ovr wv x1) := Ext.over (Ext.refl _) _
          have hDv := own_ext HD2.out hx1
          have hQv := HQV.out.ext hx1
          have hXv := HXV.out.ext hx1
          have hsv2 : w1.heap.size ≤ (ovr wv x1).heap.size := Nat.le_trans hsv hx1.size
          clear b0 b1 g0 g1 hx1 hsv
          generalize ovr wv x1 = wu at hDv hQv hXv hsv2 ⊢
          have f2 := hDv.frozenAt k
          have c2 : wu.cell? ⟨gd, k, none⟩ = some (.int .i64 (-1)) := by rw [hDv.cellAt k (by omega), List.getElem?_set_self HCL.out]
          have hS := hDv.stored k (.int .i64 0)
          have HS3 := hid hS.1
          have HQ3 := hid (hQv.kept hS.2 HGB.out)
          have HX3 := hid (hXv.grown hS.2 HGD.out)
          have HSZ := hid (show w1.heap.size ≤ (wu.setCell ⟨gd, k, none⟩ (.int .i64 0)).heap.size by rw [World.size_setCell]; exact hsv2)
          have hEL := listE_len L ⟨qa, qb⟩ k
          clear hS hDv hQv hXv hsv2 HD2 HQV HXV
          go_wp2_with (at_builtin; refine wpList_pushQ rfl (.tmp 34) (.tmp 36) 28 rfl 3 Try.underlying28 info_intP rfl w1.heap.size gL oL (listE L ⟨qa, qb⟩ k).length cL _ rfl (wu.setCell ⟨gd, k, none⟩ (.int .i64 0)) HQ3.out (by repeat (first | exact Ext.refl _ | refine Ext.alloc ?_ _ | assumption | refine Ext.over ?_ _ | refine Ext.drew ?_ | refine Ext.drewN ?_ _)) HSZ.out _ 1 (.int .i64 k) rfl (lit_cells _ _ (by first | (simp; done) | simp [ovr_size]) _ _) rfl (by omega) (by decide) ?_)
          intro g2 o2 c5 w3 hQ4 hgr hgg
          have HQ4 := hid hQ4
          have HD4 := hid (HS3.out.kept hgr (.inr (by intro h1; have h2 : gd = gL := (by simpa [Value.ownBlock] using h1); have := HGB.out; have := HGL.out; omega)))
          have HX4 := hid (HX3.out.grown hgr (by have := HGB.out; have := HGL.out; have := HGD.out; omega))
          have hB4 : w1.heap.size ≤ w3.heap.size := Nat.le_trans HSZ.out hgr.size
          clear hQ4 hgr hgg HS3 HX3 HQ3 HSZ
          go_wp2_with fail
          go_roundw
          case rel =>
            refine ⟨k + 1, g2, o2, c5, _, by omega, by go_num, by rw [HL1.out, List.length_append]; rfl, by rw [HL1.out, List.length_append, vl_snoc]; exact HQ4.out, HD4.out, fun j hj => ?_, HX4.out, hB4⟩
            by_cases hjk : j = k
            · subst hjk; rw [List.getElem?_set_self (by rw [List.length_set]; exact HCL.out), HDV.out]
            · rw [List.getElem?_set_ne (fun e => hjk e.symm)]; exact HUV.out j (by omega)
          case measure => simp [intOf]; omega
        · obtain ⟨h1, h2⟩ := HNO.out (fun h => hxb h.2)
          have H1 := hid h1
          have H2 := hid h2
          clear h1 h2 HE HNO
          have hxx : (xa == qa) = true := by simpa using hxa
          have hyy : (xb == qb) = false := by simpa using hxb
          replace hxa := hid hxa
          replace hxb := hid hxb
          (refine wp_region_calm (by kernel_rfl) (by kernel_rfl) ?_; (repeat (go_big_quiet_step (fail))); refine wpQuiet_nil ?_; rintro w1 ⟨x1, rfl⟩)
          go_wp2_with fail
          have hx1 : Ext wv (ovr wv x1) := Ext.over (Ext.refl _) _
          go_roundw
          case rel => exact ⟨k + 1, gL, oL, cL, _, by omega, by go_num, by rw [H1.out], by rw [H1.out]; exact HQV.out.ext hx1, own_ext HD2.out hx1, H2.out, HXV.out.ext hx1, Nat.le_trans hsv hx1.size⟩
          case measure => simp [intOf]; omega
      · obtain ⟨h1, h2⟩ := HNO.out (fun h => hxa h.1)
        have H1 := hid h1
        have H2 := hid h2
        clear h1 h2 HE HNO
        have hxx : (xa == qa) = false := by simpa using hxa
        replace hxa := hid hxa
        (refine wp_region_calm (by kernel_rfl) (by kernel_rfl) ?_; (repeat (go_big_quiet_step (fail))); refine wpQuiet_nil ?_; rintro w1 ⟨x1, rfl⟩)
        go_wp2_with fail
        have hx1 : Ext wv (ovr wv x1) := Ext.over (Ext.refl _) _
        go_roundw
        case rel => exact ⟨k + 1, gL, oL, cL, _, by omega, by go_num, by rw [H1.out], by rw [H1.out]; exact HQV.out.ext hx1, own_ext HD2.out hx1, H2.out, HXV.out.ext hx1, Nat.le_trans hsv hx1.size⟩
        case measure => simp [intOf]; omega
    · -- LOOPS
      have hkn : ¬ k < L.length := hlt
      obtain rfl : k = L.length := by omega
      have HD2 := hid (show wr.ownsRow w.heap.size 3 1 (.slice (some ⟨gd, 0, none⟩) L.length L.length) L.length (dC L ⟨qa, qb⟩ [rt L]) by
        have he : cs = dC L ⟨qa, qb⟩ [rt L] := by
          apply List.ext_getElem?
          intro j
          have hl := HD.out.1
          rcases Nat.lt_or_ge j L.length with h1 | h1
          · rw [HU.out j h1, dC_get h1]
          · rw [List.getElem?_eq_none (by omega), List.getElem?_eq_none (by rw [dC_len]; exact h1)]
        rw [← he]; exact HD.out)
      have HQ2 := hid (show QAt w1.heap.size 3 wr (some ⟨gL, oL, none⟩) (listN L ⟨qa, qb⟩ [rt L]).length cL (vl (listN L ⟨qa, qb⟩ [rt L])) by
        have : listN L ⟨qa, qb⟩ [rt L] = listE L ⟨qa, qb⟩ L.length := by unfold listN; simp
        rw [this]; exact HQ.out)
      have HLE := hid (show (listE L ⟨qa, qb⟩ L.length).length = (listN L ⟨qa, qb⟩ [rt L]).length by unfold listN; simp)
      rename World => wo
      obtain ⟨wz, hwz⟩ : ∃ wz, wz = w1 := ⟨_, rfl⟩
      rw [← hwz] at HQ2 HGB hsz
      clear HD HQ HU
      obtain ⟨B, hB⟩ : ∃ B, B = [rt L] := ⟨_, rfl⟩
      obtain ⟨y, hy⟩ : ∃ y, y = rt L := ⟨_, rfl⟩
      have HB1 := hid (show B ++ newsG L L ⟨qa, qb⟩ L.length B y = bG L L ⟨qa, qb⟩ 1 by rw [hB, hy]; exact bG_one.symm)
      have HADJ := hid (show ∀ j, j < L.length → adjG L L ⟨qa, qb⟩ j y.v = (!isE L ⟨qa, qb⟩ j && seesS L (at2 L j) ⟨qa, qb⟩) from fun j hj => by
        rw [hy]; unfold adjG rt; rw [at2_app hj, at2_last]; rfl)
      have HYD := hid (show y.d = 0 by rw [hy]; rfl)
      have HBLN := hid (show B.length ≤ 11 by rw [hB]; simp)
      have HBNE := hid (show B ≠ [] by rw [hB]; simp)
      rw [← hB] at HD2 HQ2 HLE
      clear hB hy hwz
      go_wp2_with fail
      go_loopw [7, 9] (fun lv iv wr => ∃ (j gM oM cM : Nat), j ≤ L.length ∧ iv = .int .i64 ↑j ∧ lv = .slice (some ⟨gM, oM, none⟩) (listN L ⟨qa, qb⟩ (B ++ newsG L L ⟨qa, qb⟩ j B y)).length cM ∧ QAt wz.heap.size 3 wr (some ⟨gM, oM, none⟩) (listN L ⟨qa, qb⟩ (B ++ newsG L L ⟨qa, qb⟩ j B y)).length cM (vl (listN L ⟨qa, qb⟩ (B ++ newsG L L ⟨qa, qb⟩ j B y))) ∧ wr.ownsRow w.heap.size 3 1 (.slice (some ⟨gd, 0, none⟩) L.length L.length) L.length (dC L ⟨qa, qb⟩ (B ++ newsG L L ⟨qa, qb⟩ j B y)) ∧ Bq qa qb w wr ∧ wz.heap.size ≤ wr.heap.size) (fun _ iv _ => L.length - (intOf iv).toNat)
      case atStart =>
        have h0 : B ++ newsG L L ⟨qa, qb⟩ 0 B y = B := by rw [show newsG L L ⟨qa, qb⟩ 0 B y = [] from rfl, List.append_nil]
        exact ⟨0, gL, oL, cL, Nat.zero_le _, rfl, by rw [h0, ← HLE.out], by rw [h0]; exact HQ2.out, by rw [h0]; exact HD2.out, HX.out, hsz⟩
      case round =>
        clear HQ2 HD2 HX HLE b0 b1
        obtain ⟨j, gM, oM, cM, hj, rfl, rfl, hQ, hD, hbq, hsz⟩ := hrel
        have HX := hid hbq
        have HGM := hid (show wz.heap.size ≤ gM from by
          obtain ⟨_, _, hA, h3, _⟩ := hQ.at_
          injection hA with hA; injection hA with hA1 hA2; omega)
        obtain ⟨M, hM⟩ : ∃ M, M = B ++ newsG L L ⟨qa, qb⟩ j B y := ⟨_, rfl⟩
        have hnst : newsG L L ⟨qa, qb⟩ (j + 1) B y = newsG L L ⟨qa, qb⟩ j B y ++ if (!seenIn B j && adjG L L ⟨qa, qb⟩ j y.v) = true then [⟨j, y.v, y.d + 1⟩] else [] := news_step j _ B y
        have hns : seenIn M j = seenIn B j := by rw [hM]; exact news_seen j _ B y
        have hlen : (listN L ⟨qa, qb⟩ M).length ≤ 40 := by
          have h1 := listE_len L ⟨qa, qb⟩ L.length
          have h2 : (newsG L L ⟨qa, qb⟩ j B y).length ≤ j := news_len j _ B y
          have h3 := HBLN.out
          rw [hM]; unfold listN
          rw [List.length_append, List.length_map, List.length_tail, List.length_append]; omega
        have HLS := hid (show ∀ v : Nd, listN L ⟨qa, qb⟩ (M ++ [v]) = listN L ⟨qa, qb⟩ M ++ [v.v] from fun v => by
          unfold listN
          have hne : M ≠ [] := by rw [hM]; intro h; have := HBNE.out; rw [List.append_eq_nil_iff] at h; exact this h.1
          rw [List.tail_append_of_ne_nil hne, List.map_append, List.append_assoc]; rfl)
        rw [← hM] at hQ hD ⊢
        have HMM := hid hM
        have HQ := hid hQ
        have HD := hid hD
        clear hQ hD hbq hM
        by_cases hlt : j < L.length
        · have hjt : (j : Int) < L.length := by omega
          have hadj := HADJ.out j hlt
          have b0 := HX.out.2.1
          have b1 := HX.out.2.2
          obtain ⟨bk, off, hA, hc⟩ := (HL.out.ext HX.out.1).t2 hlt
          obtain ⟨g0, g1⟩ := hc j hlt
          have HRW := hid (HL.out.ext HX.out.1)
          clear hc
          subst hA
          have c2 : wr.cell? ⟨gd, j, none⟩ = some (.int .i64 (dv L ⟨qa, qb⟩ M j)) := by rw [HD.out.cellAt j (by omega)]; exact dC_get hlt
          by_cases hskip : isE L ⟨qa, qb⟩ j = true ∨ seenIn B j = true
          · have HM' := hid (show B ++ newsG L L ⟨qa, qb⟩ (j + 1) B y = M by
              rw [hnst, HMM.out, hadj]
              rcases hskip with h | h <;> simp [h])
            obtain ⟨dz, hdz, hdd⟩ : ∃ dz : Int, decide (dz < 0) = false ∧ dv L ⟨qa, qb⟩ M j = dz := by
              unfold dv
              rcases hskip with h | h
              · exact ⟨0, by simp, by rw [h]; rfl⟩
              · obtain ⟨dd, hdd⟩ := distOf_seen (hns.trans h)
                cases h2 : isE L ⟨qa, qb⟩ j
                · exact ⟨dd, by simp, by rw [hdd]; rfl⟩
                · exact ⟨0, by simp, rfl⟩
            rw [hdd] at c2
            clear hnst hns hskip hdd hadj HADJ
            go_wp2_with fail
            (refine wp_region_calm (by kernel_rfl) (by kernel_rfl) ?_; (repeat (go_big_quiet_step (fail))); refine wpQuiet_nil ?_; rintro w1 ⟨x1, rfl⟩)
            go_wp2_with fail
            have hx1 : Ext wr (ovr wr x1) := Ext.over (Ext.refl _) _
            go_roundw
            case rel => exact ⟨j + 1, gM, oM, cM, by omega, by go_num, by rw [HM'.out], by rw [HM'.out]; exact HQ.out.ext hx1, by rw [HM'.out]; exact own_ext HD.out hx1, HX.out.ext hx1, Nat.le_trans hsz hx1.size⟩
            case measure => simp [intOf]; omega
          · have he : isE L ⟨qa, qb⟩ j = false := by cases h : isE L ⟨qa, qb⟩ j; rfl; exact absurd (.inl h) hskip
            have hs : seenIn B j = false := by cases h : seenIn B j; rfl; exact absurd (.inr h) hskip
            have hdd : dv L ⟨qa, qb⟩ M j = -1 := by unfold dv; rw [he, if_neg (by simp), distOf_none (hns.trans hs)]
            rw [hdd] at c2
            cases hse : seesS L (at2 L j) ⟨qa, qb⟩
            · have HM' := hid (show B ++ newsG L L ⟨qa, qb⟩ (j + 1) B y = M by rw [hnst, HMM.out, hadj, hse]; simp)
              clear hnst hns hskip hdd hadj HADJ
              go_wp2_with fail
              (refine wp_region_calm (by kernel_rfl) (by kernel_rfl) ?_; (repeat (go_big_quiet_step ((go_at_call 35; exact (gives_b hse (HSE.out (at2 L j) ⟨qa, qb⟩ _ (HRW.out.ext (by repeat (first | exact Ext.refl _ | refine Ext.alloc ?_ _ | assumption | refine Ext.over ?_ _ | refine Ext.drew ?_ | refine Ext.drewN ?_ _))))).calm)))); refine wpQuiet_nil ?_; rintro w1 ⟨x1, rfl⟩)
              go_wp2_with fail
              have hx1 : Ext wr (ovr wr x1) := Ext.over (Ext.refl _) _
              go_roundw
              case rel => exact ⟨j + 1, gM, oM, cM, by omega, by go_num, by rw [HM'.out], by rw [HM'.out]; exact HQ.out.ext hx1, by rw [HM'.out]; exact own_ext HD.out hx1, HX.out.ext hx1, Nat.le_trans hsz hx1.size⟩
              case measure => simp [intOf]; omega
            · have HM' := hid (show B ++ newsG L L ⟨qa, qb⟩ (j + 1) B y = M ++ [⟨j, y.v, y.d + 1⟩] by rw [hnst, HMM.out, hadj, hse, he, hs]; simp)
              have HDC := hid (show dC L ⟨qa, qb⟩ (M ++ [⟨j, y.v, y.d + 1⟩]) = (dC L ⟨qa, qb⟩ M).set j (.int .i64 1) by
                have h := dC_snoc (F := L) (q := ⟨qa, qb⟩) (B := M) (x := ⟨j, y.v, y.d + 1⟩) (hns.trans hs) he
                have e : ((y.d + 1 : Nat) : Int) = 1 := by have := HYD.out; omega
                rw [h]
                show (dC L ⟨qa, qb⟩ M).set j (.int .i64 ((y.d + 1 : Nat) : Int)) = _
                rw [e])
              clear hnst hns hskip hdd hadj HADJ
              go_wp2_with fail
              (refine wp_region_calm (by kernel_rfl) (by kernel_rfl) ?_; (repeat (go_big_quiet_step ((go_at_call 35; exact (gives_b hse (HSE.out (at2 L j) ⟨qa, qb⟩ _ (HRW.out.ext (by repeat (first | exact Ext.refl _ | refine Ext.alloc ?_ _ | assumption | refine Ext.over ?_ _ | refine Ext.drew ?_ | refine Ext.drewN ?_ _))))).calm)))); refine wpQuiet_nil ?_; rintro w1 ⟨x1, rfl⟩)
              have hx1 : Ext wr (ovr wr x1) := Ext.over (Ext.refl _) _
              have d2 := old_cell hx1 c2
              have hDv := own_ext HD.out hx1
              have hQv := HQ.out.ext hx1
              have hXv := HX.out.ext hx1
              have hsv : wz.heap.size ≤ (ovr wr x1).heap.size := Nat.le_trans hsz hx1.size
              clear b0 b1 c2 g0 g1 hx1
              generalize ovr wr x1 = wv at *
              have f2 := hDv.frozenAt j
              have hS := hDv.stored j (.int .i64 1)
              have HS3 := hid hS.1
              have HQ3 := hid (hQv.kept hS.2 HGB.out)
              have HX3 := hid (hXv.grown hS.2 HGD.out)
              have HSZ := hid (show wz.heap.size ≤ (wv.setCell ⟨gd, j, none⟩ (.int .i64 1)).heap.size by rw [World.size_setCell]; exact hsv)
              clear hS hDv hQv hXv hsv
              go_wp2_with (at_builtin; refine wpList_pushQ rfl (.tmp 60) (.tmp 62) 28 rfl 3 Try.underlying28 info_intP rfl wz.heap.size gM oM (listN L ⟨qa, qb⟩ M).length cM _ rfl (wv.setCell ⟨gd, j, none⟩ (.int .i64 1)) HQ3.out (by repeat (first | exact Ext.refl _ | refine Ext.alloc ?_ _ | assumption | refine Ext.over ?_ _ | refine Ext.drew ?_ | refine Ext.drewN ?_ _)) HSZ.out _ 1 (.int .i64 j) rfl (lit_cells _ _ (by first | (simp; done) | simp [ovr_size]) _ _) rfl (by omega) (by decide) ?_)
              intro g2 o2 c5 w3 hQ4 hgr hgg
              have HQ4 := hid hQ4
              have HD4 := hid (HS3.out.kept hgr (.inr (by intro h1; have h2 : gd = gM := (by simpa [Value.ownBlock] using h1); have := HGB.out; have := HGM.out; omega)))
              have HX4 := hid (HX3.out.grown hgr (by have := HGB.out; have := HGM.out; have := HGD.out; omega))
              have hB4 : wz.heap.size ≤ w3.heap.size := Nat.le_trans HSZ.out hgr.size
              clear hQ4 hgr hgg HS3 HX3 HQ3 HSZ
              go_wp2_with fail
              go_roundw
              case rel => exact ⟨j + 1, g2, o2, c5, by omega, by go_num, by rw [HM'.out, HLS.out, List.length_append]; rfl, by rw [HM'.out, HLS.out, List.length_append, vl_snoc]; exact HQ4.out, by rw [HM'.out, HDC.out]; exact HD4.out, HX4.out, hB4⟩
              case measure => simp [intOf]; omega
        · obtain rfl : j = L.length := by omega
          have HD := hid (show wr.ownsRow w.heap.size 3 1 (.slice (some ⟨gd, 0, none⟩) L.length L.length) L.length (dC L ⟨qa, qb⟩ (bG L L ⟨qa, qb⟩ 1)) by rw [← HB1.out, ← HMM.out]; exact HD.out)
          have HQ := hid (show QAt wz.heap.size 3 wr (some ⟨gM, oM, none⟩) (listN L ⟨qa, qb⟩ (bG L L ⟨qa, qb⟩ 1)).length cM (vl (listN L ⟨qa, qb⟩ (bG L L ⟨qa, qb⟩ 1))) by rw [← HB1.out, ← HMM.out]; exact HQ.out)
          have HML := hid (show M = bG L L ⟨qa, qb⟩ 1 by rw [HMM.out, HB1.out])
          clear hnst hns HADJ HYD HBLN HBNE HB1 HMM hlen HLS
          rename World => wp
          go_wp2_with fail
          go_loopw [7, 10] (fun lv iv wr => ∃ (i gM oM cM : Nat), i ≤ (listN L ⟨qa, qb⟩ (bG L L ⟨qa, qb⟩ (kOf L ⟨qa, qb⟩ i))).length ∧ iv = .int .i64 ↑i ∧ lv = .slice (some ⟨gM, oM, none⟩) (listN L ⟨qa, qb⟩ (bG L L ⟨qa, qb⟩ (kOf L ⟨qa, qb⟩ i))).length cM ∧ QAt wz.heap.size 3 wr (some ⟨gM, oM, none⟩) (listN L ⟨qa, qb⟩ (bG L L ⟨qa, qb⟩ (kOf L ⟨qa, qb⟩ i))).length cM (vl (listN L ⟨qa, qb⟩ (bG L L ⟨qa, qb⟩ (kOf L ⟨qa, qb⟩ i)))) ∧ wr.ownsRow w.heap.size 3 1 (.slice (some ⟨gd, 0, none⟩) L.length L.length) L.length (dC L ⟨qa, qb⟩ (bG L L ⟨qa, qb⟩ (kOf L ⟨qa, qb⟩ i))) ∧ Bq qa qb w wr ∧ wz.heap.size ≤ wr.heap.size) (fun _ iv _ => 2 * L.length - (intOf iv).toNat)
          case atStart =>
            have h0 : kOf L ⟨qa, qb⟩ 0 = 1 := by unfold kOf; split <;> omega
            exact ⟨0, gM, oM, cM, Nat.zero_le _, rfl, by rw [h0, ← HML.out], by rw [h0]; exact HQ.out, by rw [h0]; exact HD.out, HX.out, hsz⟩
          case round =>
            clear HQ HD HX HML HGM hsz
            obtain ⟨i, gM, oM, cM, hi, rfl, rfl, hQ, hD, hbq, hsz⟩ := hrel
            have hln : (listN L ⟨qa, qb⟩ (bG L L ⟨qa, qb⟩ (kOf L ⟨qa, qb⟩ i))).length ≤ 2 * L.length := listN_len _
            have HRI := hid (fun x => round_is (L := L) (F := L) (q := ⟨qa, qb⟩) (i := i) (x := x))
            have HRE := hid (fun h v => round_end (L := L) (F := L) (q := ⟨qa, qb⟩) (i := i) h (v := v))
            have HDL := hid (fun z hz => depth_lt (n := L.length + 1) (adj := adjG L L ⟨qa, qb⟩) (a := L.length) (k := kOf L ⟨qa, qb⟩ i) (by omega) (x := z) hz)
            have HBL := hid (bfs_len (n := L.length + 1) (adj := adjG L L ⟨qa, qb⟩) (a := L.length) (by omega) (kOf L ⟨qa, qb⟩ i))
            have HBP := hid (bG_inv (L := L) (F := L) (q := ⟨qa, qb⟩) (kOf L ⟨qa, qb⟩ i)).pos
            change Hid (∀ z, z ∈ bG L L ⟨qa, qb⟩ (kOf L ⟨qa, qb⟩ i) → _) at HDL
            change Hid ((bG L L ⟨qa, qb⟩ (kOf L ⟨qa, qb⟩ i)).length ≤ _) at HBL
            generalize bG L L ⟨qa, qb⟩ (kOf L ⟨qa, qb⟩ i) = B at *
            by_cases hlt : i < (listN L ⟨qa, qb⟩ B).length
            · obtain ⟨x, hx⟩ : ∃ x, (listN L ⟨qa, qb⟩ B)[i]? = some x := ⟨_, List.getElem?_eq_getElem hlt⟩
              obtain ⟨y, hyB, hxn, hyz, hdy, hnext⟩ := HRI.out x hx
              have hyd := HDL.out y hyB
              have HYD := hid hyd
              have HILT := hid hlt
              have HNX := hid hnext
              have HXG := hid hx
              have HDX := hid (show dv L ⟨qa, qb⟩ B x = y.d from hdy)
              have HBLN := hid (show B.length ≤ 11 by have := HBL.out; omega)
              have HBNE := hid (show B ≠ [] from fun h => by have := HBP.out; rw [h] at this; simp at this)
              have HADJ := hid (show ∀ j, j < L.length → adjG L L ⟨qa, qb⟩ j y.v = (!isE L ⟨qa, qb⟩ j && seesS L (at2 L j) (at2 L x)) from fun j hj => by
                unfold adjG; rw [at2_app hj, hyz]; rfl)
              have HQ2 := hid hQ
              have HD2 := hid hD
              have HX := hid hbq
              clear hQ hD hbq HRI HRE HDL HBL HBP hx hyB hyz hdy hnext
              go_wp2_with fail
              rename World => wq
              go_loopw [7, 11] (fun lv iv wr => ∃ (j gM oM cM : Nat), j ≤ L.length ∧ iv = .int .i64 ↑j ∧ lv = .slice (some ⟨gM, oM, none⟩) (listN L ⟨qa, qb⟩ (B ++ newsG L L ⟨qa, qb⟩ j B y)).length cM ∧ QAt wz.heap.size 3 wr (some ⟨gM, oM, none⟩) (listN L ⟨qa, qb⟩ (B ++ newsG L L ⟨qa, qb⟩ j B y)).length cM (vl (listN L ⟨qa, qb⟩ (B ++ newsG L L ⟨qa, qb⟩ j B y))) ∧ wr.ownsRow w.heap.size 3 1 (.slice (some ⟨gd, 0, none⟩) L.length L.length) L.length (dC L ⟨qa, qb⟩ (B ++ newsG L L ⟨qa, qb⟩ j B y)) ∧ Bq qa qb w wr ∧ wz.heap.size ≤ wr.heap.size) (fun _ iv _ => L.length - (intOf iv).toNat)
              case atStart =>
                have h0 : B ++ newsG L L ⟨qa, qb⟩ 0 B y = B := by rw [show newsG L L ⟨qa, qb⟩ 0 B y = [] from rfl, List.append_nil]
                exact ⟨0, gM, oM, cM, Nat.zero_le _, rfl, by rw [h0], by rw [h0]; exact HQ2.out, by rw [h0]; exact HD2.out, HX.out, hsz⟩
              case round =>
                clear HQ2 HD2 HX
                obtain ⟨j, gM, oM, cM, hj, rfl, rfl, hQ, hD, hbq, hsz⟩ := hrel
                have HX := hid hbq
                have HGM := hid (show wz.heap.size ≤ gM from by
                  obtain ⟨_, _, hA, h3, _⟩ := hQ.at_
                  injection hA with hA; injection hA with hA1 hA2; omega)
                obtain ⟨M, hM⟩ : ∃ M, M = B ++ newsG L L ⟨qa, qb⟩ j B y := ⟨_, rfl⟩
                have hnst : newsG L L ⟨qa, qb⟩ (j + 1) B y = newsG L L ⟨qa, qb⟩ j B y ++ if (!seenIn B j && adjG L L ⟨qa, qb⟩ j y.v) = true then [⟨j, y.v, y.d + 1⟩] else [] := news_step j _ B y
                have hns : seenIn M j = seenIn B j := by rw [hM]; exact news_seen j _ B y
                have hlen : (listN L ⟨qa, qb⟩ M).length ≤ 40 := by
                  have h1 := listE_len L ⟨qa, qb⟩ L.length
                  have h2 : (newsG L L ⟨qa, qb⟩ j B y).length ≤ j := news_len j _ B y
                  have h3 := HBLN.out
                  rw [hM]; unfold listN
                  rw [List.length_append, List.length_map, List.length_tail, List.length_append]; omega
                have HLS := hid (show ∀ v : Nd, listN L ⟨qa, qb⟩ (M ++ [v]) = listN L ⟨qa, qb⟩ M ++ [v.v] from fun v => by
                  unfold listN
                  have hne : M ≠ [] := by rw [hM]; intro h; have := HBNE.out; rw [List.append_eq_nil_iff] at h; exact this h.1
                  rw [List.tail_append_of_ne_nil hne, List.map_append, List.append_assoc]; rfl)
                rw [← hM] at hQ hD ⊢
                have HMM := hid hM
                have HQ := hid hQ
                have HD := hid hD
                clear hQ hD hbq hM
                by_cases hlt : j < L.length
                · have hjt : (j : Int) < L.length := by omega
                  have hadj := HADJ.out j hlt
                  have b0 := HX.out.2.1
                  have b1 := HX.out.2.2
                  obtain ⟨bk, off, hA, hc⟩ := (HL.out.ext HX.out.1).t2 hlt
                  obtain ⟨g0, g1⟩ := hc j hlt
                  have hMx : (vl (listN L ⟨qa, qb⟩ M))[i]? = some (.int .i64 (x : Int)) := by
                    rw [HMM.out]
                    unfold vl listN
                    have h := HXG.out
                    unfold listN at h
                    rw [List.getElem?_map, List.tail_append_of_ne_nil HBNE.out, List.map_append, ← List.append_assoc, List.getElem?_append_left (List.getElem?_eq_some_iff.1 h).1, h]; rfl
                  have him : i < (listN L ⟨qa, qb⟩ M).length := by
                    have := (List.getElem?_eq_some_iff.1 hMx).1; rwa [vl_len] at this
                  obtain ⟨_, _, hA2, _, _, hcell⟩ := HQ.out.at_
                  injection hA2 with hA2; injection hA2 with hA3 hA4; subst hA3 hA4
                  have c1 := hcell i _ hMx
                  obtain ⟨z0, z1⟩ := hc x hxn
                  have c3 : wr.cell? ⟨gd, x, none⟩ = some (.int .i64 (y.d : Int)) := by
                    have h1 : dv L ⟨qa, qb⟩ M x = y.d := by
                      rw [← HDX.out]
                      unfold dv
                      cases h2 : isE L ⟨qa, qb⟩ x
                      · have h3 : seenIn B x = true := by
                          cases h4 : seenIn B x
                          · have h5 := HDX.out
                            unfold dv at h5
                            rw [h2, if_neg (by simp), distOf_none h4] at h5
                            omega
                          · rfl
                        rw [HMM.out, distOf_app h3]
                      · rfl
                    rw [HD.out.cellAt x (by omega), ← h1]; exact dC_get hxn
                  have hxt : (x : Int) < L.length := by omega
                  have hit : (i : Int) < (listN L ⟨qa, qb⟩ M).length := by omega
                  have hyd2 := HYD.out
                  clear hcell hMx
                  have HRW := hid (HL.out.ext HX.out.1)
                  clear hc
                  subst hA
                  have c2 : wr.cell? ⟨gd, j, none⟩ = some (.int .i64 (dv L ⟨qa, qb⟩ M j)) := by rw [HD.out.cellAt j (by omega)]; exact dC_get hlt
                  by_cases hskip : isE L ⟨qa, qb⟩ j = true ∨ seenIn B j = true
                  · have HM' := hid (show B ++ newsG L L ⟨qa, qb⟩ (j + 1) B y = M by
                      rw [hnst, HMM.out, hadj]
                      rcases hskip with h | h <;> simp [h])
                    obtain ⟨dz, hdz, hdd⟩ : ∃ dz : Int, decide (dz < 0) = false ∧ dv L ⟨qa, qb⟩ M j = dz := by
                      unfold dv
                      rcases hskip with h | h
                      · exact ⟨0, by simp, by rw [h]; rfl⟩
                      · obtain ⟨dd, hdd⟩ := distOf_seen (hns.trans h)
                        cases h2 : isE L ⟨qa, qb⟩ j
                        · exact ⟨dd, by simp, by rw [hdd]; rfl⟩
                        · exact ⟨0, by simp, rfl⟩
                    rw [hdd] at c2
                    clear hnst hns hskip hdd hadj HADJ
                    go_wp2_with fail
                    (refine wp_region_calm (by kernel_rfl) (by kernel_rfl) ?_; (repeat (go_big_quiet_step (fail))); refine wpQuiet_nil ?_; rintro w1 ⟨x1, rfl⟩)
                    go_wp2_with fail
                    have hx1 : Ext wr (ovr wr x1) := Ext.over (Ext.refl _) _
                    go_roundw
                    case rel => exact ⟨j + 1, gM, oM, cM, by omega, by go_num, by rw [HM'.out], by rw [HM'.out]; exact HQ.out.ext hx1, by rw [HM'.out]; exact own_ext HD.out hx1, HX.out.ext hx1, Nat.le_trans hsz hx1.size⟩
                    case measure => simp [intOf]; omega
                  · have he : isE L ⟨qa, qb⟩ j = false := by cases h : isE L ⟨qa, qb⟩ j; rfl; exact absurd (.inl h) hskip
                    have hs : seenIn B j = false := by cases h : seenIn B j; rfl; exact absurd (.inr h) hskip
                    have hdd : dv L ⟨qa, qb⟩ M j = -1 := by unfold dv; rw [he, if_neg (by simp), distOf_none (hns.trans hs)]
                    rw [hdd] at c2
                    cases hse : seesS L (at2 L j) (at2 L x)
                    · have HM' := hid (show B ++ newsG L L ⟨qa, qb⟩ (j + 1) B y = M by rw [hnst, HMM.out, hadj, hse]; simp)
                      clear hnst hns hskip hdd hadj HADJ
                      go_wp2_with fail
                      (refine wp_region_calm (by kernel_rfl) (by kernel_rfl) ?_; (repeat (go_big_quiet_step ((go_at_call 35; exact (gives_b hse (HSE.out (at2 L j) (at2 L x) _ (HRW.out.ext (by repeat (first | exact Ext.refl _ | refine Ext.alloc ?_ _ | assumption | refine Ext.over ?_ _ | refine Ext.drew ?_ | refine Ext.drewN ?_ _))))).calm)))); refine wpQuiet_nil ?_; rintro w1 ⟨x1, rfl⟩)
                      go_wp2_with fail
                      have hx1 : Ext wr (ovr wr x1) := Ext.over (Ext.refl _) _
                      go_roundw
                      case rel => exact ⟨j + 1, gM, oM, cM, by omega, by go_num, by rw [HM'.out], by rw [HM'.out]; exact HQ.out.ext hx1, by rw [HM'.out]; exact own_ext HD.out hx1, HX.out.ext hx1, Nat.le_trans hsz hx1.size⟩
                      case measure => simp [intOf]; omega
                    · have HM' := hid (show B ++ newsG L L ⟨qa, qb⟩ (j + 1) B y = M ++ [⟨j, y.v, y.d + 1⟩] by rw [hnst, HMM.out, hadj, hse, he, hs]; simp)
                      have HDC := hid (show dC L ⟨qa, qb⟩ (M ++ [⟨j, y.v, y.d + 1⟩]) = (dC L ⟨qa, qb⟩ M).set j (.int .i64 (↑y.d + 1)) by
                        have h := dC_snoc (F := L) (q := ⟨qa, qb⟩) (B := M) (x := ⟨j, y.v, y.d + 1⟩) (hns.trans hs) he
                        have e : ((y.d + 1 : Nat) : Int) = (↑y.d + 1) := by have := HYD.out; omega
                        rw [h]
                        show (dC L ⟨qa, qb⟩ M).set j (.int .i64 ((y.d + 1 : Nat) : Int)) = _
                        rw [e])
                      clear hnst hns hskip hdd hadj HADJ
                      go_wp2_with fail
                      (refine wp_region_calm (by kernel_rfl) (by kernel_rfl) ?_; (repeat (go_big_quiet_step ((go_at_call 35; exact (gives_b hse (HSE.out (at2 L j) (at2 L x) _ (HRW.out.ext (by repeat (first | exact Ext.refl _ | refine Ext.alloc ?_ _ | assumption | refine Ext.over ?_ _ | refine Ext.drew ?_ | refine Ext.drewN ?_ _))))).calm)))); refine wpQuiet_nil ?_; rintro w1 ⟨x1, rfl⟩)
                      have hx1 : Ext wr (ovr wr x1) := Ext.over (Ext.refl _) _
                      have d2 := old_cell hx1 c2
                      have d3 := old_cell hx1 c1
                      have d4 := old_cell hx1 c3
                      clear c1 c3 z0 z1
                      have hDv := own_ext HD.out hx1
                      have hQv := HQ.out.ext hx1
                      have hXv := HX.out.ext hx1
                      have hsv : wz.heap.size ≤ (ovr wr x1).heap.size := Nat.le_trans hsz hx1.size
                      clear b0 b1 c2 g0 g1 hx1
                      generalize ovr wr x1 = wv at *
                      have f2 := hDv.frozenAt j
                      have hS := hDv.stored j (.int .i64 (↑y.d + 1))
                      have HS3 := hid hS.1
                      have HQ3 := hid (hQv.kept hS.2 HGB.out)
                      have HX3 := hid (hXv.grown hS.2 HGD.out)
                      have HSZ := hid (show wz.heap.size ≤ (wv.setCell ⟨gd, j, none⟩ (.int .i64 (↑y.d + 1))).heap.size by rw [World.size_setCell]; exact hsv)
                      clear hS hDv hQv hXv hsv
                      go_wp2_with (at_builtin; refine wpList_pushQ rfl (.tmp 106) (.tmp 108) 28 rfl 3 Try.underlying28 info_intP rfl wz.heap.size gM oM (listN L ⟨qa, qb⟩ M).length cM _ rfl (wv.setCell ⟨gd, j, none⟩ (.int .i64 (↑y.d + 1))) HQ3.out (by repeat (first | exact Ext.refl _ | refine Ext.alloc ?_ _ | assumption | refine Ext.over ?_ _ | refine Ext.drew ?_ | refine Ext.drewN ?_ _)) HSZ.out _ 1 (.int .i64 j) rfl (lit_cells _ _ (by first | (simp; done) | simp [ovr_size]) _ _) rfl (by omega) (by decide) ?_)
                      intro g2 o2 c5 w3 hQ4 hgr hgg
                      have HQ4 := hid hQ4
                      have HD4 := hid (HS3.out.kept hgr (.inr (by intro h1; have h2 : gd = gM := (by simpa [Value.ownBlock] using h1); have := HGB.out; have := HGM.out; omega)))
                      have HX4 := hid (HX3.out.grown hgr (by have := HGB.out; have := HGM.out; have := HGD.out; omega))
                      have hB4 : wz.heap.size ≤ w3.heap.size := Nat.le_trans HSZ.out hgr.size
                      clear hQ4 hgr hgg HS3 HX3 HQ3 HSZ
                      go_wp2_with fail
                      go_roundw
                      case rel => exact ⟨j + 1, g2, o2, c5, by omega, by go_num, by rw [HM'.out, HLS.out, List.length_append]; rfl, by rw [HM'.out, HLS.out, List.length_append, vl_snoc]; exact HQ4.out, by rw [HM'.out, HDC.out]; exact HD4.out, HX4.out, hB4⟩
                      case measure => simp [intOf]; omega
                · obtain rfl : j = L.length := by omega
                  have HB' := hid (show bG L L ⟨qa, qb⟩ (kOf L ⟨qa, qb⟩ (i + 1)) = M by rw [HNX.out, HMM.out])
                  have him : i < (listN L ⟨qa, qb⟩ M).length := by
                    have h := HILT.out
                    rw [HMM.out]
                    unfold listN at h ⊢
                    rw [List.tail_append_of_ne_nil HBNE.out]
                    simp only [List.length_append, List.length_map] at h ⊢
                    omega
                  clear hnst hns
                  go_wp2_with fail
                  go_roundw
                  case rel => exact ⟨i + 1, gM, oM, cM, by rw [HB'.out]; exact him, by go_num, by rw [HB'.out], by rw [HB'.out]; exact HQ.out, by rw [HB'.out]; exact HD.out, HX.out, hsz⟩
                  case measure => simp [intOf]; omega
            · have HD := hid hD
              have HX := hid hbq
              have HFE := hid (show dC L ⟨qa, qb⟩ B = (List.range L.length).map fun v => .int .i64 (distF L L ⟨qa, qb⟩ v) by
                unfold dC
                exact List.map_congr_left fun v _ => by rw [HRE.out (by omega) v])
              clear hQ hD hbq HRI HRE HDL HBL HBP
              go_wp2_with fail
              go_ret
              exact ⟨gd, rfl, by rw [← HFE.out]; exact HD.out, HX.out.1⟩
end Go.Proofs.Ytkifapcegiajiaa
