/- Walks: the reference's distances. Conditions: at most 7 halls. -/
import Derived.Test.YtngniniiohgilaaLinks
import Derived.Test.YtngniniiohgilaaRepeat
import Derived.Test.YtngniniiohgilaaParent
import Derived.Test.YtngniniiohgilaaQueue
namespace Go.Proofs.Ytngniniiohgilaa
open Go.RowKit
set_option linter.unusedVariables false

def distC (n : Nat) (L : List Nd) : List Value := (List.range n).map fun v => .int .i64 (distOf L v)
theorem distC_len (n : Nat) (L : List Nd) : (distC n L).length = n := by simp [distC]
theorem distC_get {n : Nat} {L : List Nd} {v : Nat} (h : v < n) : (distC n L)[v]? = some (.int .i64 (distOf L v)) := by simp [distC, h]
theorem distC_nil (n : Nat) : distC n [] = List.replicate n (.int .i64 (-1)) := by
  apply List.ext_getElem?
  intro j
  rcases Nat.lt_or_ge j n with h | h
  · rw [distC_get h]; simp [h, distOf]
  · rw [List.getElem?_eq_none (by rw [distC_len]; exact h), List.getElem?_eq_none (by simpa using h)]
theorem distOf_snoc {L : List Nd} {x : Nd} {v : Nat} (hs : seenIn L x.v = false) : distOf (L ++ [x]) v = if v = x.v then (x.d : Int) else distOf L v := by
  unfold distOf
  rw [List.find?_append]
  by_cases h : v = x.v
  · subst h
    rw [if_pos rfl, List.find?_eq_none.2]
    · simp
    · intro y hy e
      have : seenIn L x.v = true := seenIn_iff.2 ⟨y, hy, by simpa using e⟩
      rw [hs] at this; cases this
  · rw [if_neg h]
    have : ([x].find? fun y => y.v == v) = none := by simp; intro e; exact h e.symm
    rw [this]; simp
theorem distC_snoc {n : Nat} {L : List Nd} {x : Nd} (hs : seenIn L x.v = false) : distC n (L ++ [x]) = (distC n L).set x.v (.int .i64 x.d) := by
  apply List.ext_getElem?
  intro j
  rcases Nat.lt_or_ge j n with h | h
  · rw [distC_get h, distOf_snoc hs]
    by_cases hj : j = x.v
    · subst hj; rw [List.getElem?_set_self (by rw [distC_len]; exact h), if_pos rfl]
    · rw [List.getElem?_set_ne (fun e => hj e.symm), distC_get h, if_neg hj]
  · rw [List.getElem?_eq_none (by rw [distC_len]; exact h), List.getElem?_eq_none (by rw [List.length_set, distC_len]; exact h)]
theorem distOf_seen {L : List Nd} {v : Nat} (h : seenIn L v = true) : ∃ d : Nat, distOf L v = d := by
  obtain ⟨x, hx, he⟩ := seenIn_iff.1 h
  unfold distOf
  cases hf : L.find? (fun x => x.v == v) with
  | none => rw [List.find?_eq_none] at hf; exact absurd (by simpa using he) (hf x hx)
  | some y => exact ⟨y.d, rfl⟩
theorem news_zero (adj : Nat → Nat → Bool) (L : List Nd) (q : Nd) : news 0 adj L q = [] := rfl
theorem news_step (i : Nat) (adj : Nat → Nat → Bool) (L : List Nd) (q : Nd) : news (i + 1) adj L q = news i adj L q ++ if (!seenIn L i && adj i q.v) = true then [⟨i, q.v, q.d + 1⟩] else [] := by
  unfold news
  rw [List.range_succ, List.filter_append, List.map_append]
  congr 1
  cases h : (!seenIn L i && adj i q.v) <;> simp [h]
theorem news_seen (i : Nat) (adj : Nat → Nat → Bool) (L : List Nd) (q : Nd) : seenIn (L ++ news i adj L q) i = seenIn L i := by
  have : seenIn (news i adj L q) i = false := by
    cases hc : seenIn (news i adj L q) i with
    | false => rfl
    | true =>
      obtain ⟨x, hx, hv⟩ := seenIn_iff.1 hc
      have := (news_mem.1 hx).1
      omega
  unfold seenIn at this ⊢
  rw [List.any_append, this, Bool.or_false]
theorem news_len (i : Nat) (adj : Nat → Nat → Bool) (L : List Nd) (q : Nd) : (news i adj L q).length ≤ i := by
  unfold news
  rw [List.length_map]
  have := List.length_filter_le (fun i => !seenIn L i && adj i q.v) (List.range i)
  rwa [List.length_range] at this
theorem dist_len {n : Nat} {adj : Nat → Nat → Bool} {a : Nat} (L : List Nd) (h : tree n adj a = L) (v : Nat) : dist n adj a v = distOf L v := by unfold dist; rw [h]
theorem distOf_app {L M : List Nd} {v : Nat} (h : seenIn L v = true) : distOf (L ++ M) v = distOf L v := by
  obtain ⟨x, hx, he⟩ := seenIn_iff.1 h
  unfold distOf
  rw [List.find?_append]
  cases hf : L.find? (fun x => x.v == v) with
  | none => rw [List.find?_eq_none] at hf; exact absurd (by simpa using he) (hf x hx)
  | some y => rfl
def vn (L : List Nd) : List Value := L.map fun x => .int .i64 x.v
/-- A box of a house lies at the first new block. -/
def Bx (h : Nat) (A : Option Addr) (n c : Nat) (w wr : World) : Prop := Ext w wr ∧ wr.cell? ⟨w.heap.size, 0, none⟩ = some (.int .i64 h) ∧ wr.cell? ⟨w.heap.size, 1, none⟩ = some (.slice A n c)
theorem Bx.grown {h : Nat} {A : Option Addr} {n c k : Nat} {w wr w' : World} (b : Bx h A n c w wr) (hg : wr.grownBy w' (some k)) (hk : w.heap.size < k) : Bx h A n c w w' := by
  obtain ⟨b1, b2, b3⟩ := b
  have hlt := World.block_lt_of_cell? wr _ b2
  have hb : w'.heap[w.heap.size]? = wr.heap[w.heap.size]? := hg.block _ hlt (by intro e; injection e; omega)
  exact ⟨Below.grown b1 hg b1.size (fun j hj => by injection hj with hj; omega), (World.cell?_of_block hb).trans b2, (World.cell?_of_block hb).trans b3⟩
theorem Bx.ext {h : Nat} {A : Option Addr} {n c : Nat} {w wr w' : World} (b : Bx h A n c w wr) (he : Ext wr w') : Bx h A n c w w' := ⟨b.1.trans he, old_cell he b.2.1, old_cell he b.2.2⟩
def vz (L : List Nd) : List Int := L.map fun x => (x.v : Int)
set_option maxHeartbeats 3200000 in
set_option maxRecDepth 100000 in
theorem l23Distances_any (h : Nat) (A : Option Addr) (n c : Nat) (l : List T2) (a : Nat) (w : World) (hl : Row w A (l.flatMap T2.v)) (hn : l.length = n) (hx : n ≤ 12) (h7 : h ≤ 7) (ha : a < h) :
    Calls Try.prog 63 #[.agg #[.int .i64 h, .slice A n c], .int .i64 a] w fun en w' => ∃ g, en = .returned (.slice (some ⟨g, 0, none⟩) h h) ∧ w'.ownsRow w.heap.size 3 1 (.slice (some ⟨g, 0, none⟩) h h) h (distC h (tree h (fun i j => hasD l i j) a)) ∧ Ext w w' := by
  obtain ⟨i0, hi, hz0, hz1, hz2⟩ := info_parts info_int
  subst hn
  go_enter Try.func63, Try.ntmps63
  go_wp2_with (at_make; refine wpList_make_full _ rfl (.tmp 11) (.tmp 11) 31 rfl w.heap.size 3 i0 _ 1 Try.underlying31 hi hz0 hz1 _ _ _ _ h rfl rfl rfl rfl (by rw [hz2]; omega) (by unfold maxLen; omega) (by simp) ?_)
  intro w1 hown hg
  have HB := hid (show Bx h A l.length c w w1 from by
    have hb : w1.heap[w.heap.size]? = (w.alloc (.cells #[.int .i64 ↑h, .slice A l.length c] 26)).heap[w.heap.size]? := hg.block _ (by simp) (by simp)
    exact ⟨Below.grown (by repeat (first | exact Ext.refl _ | refine Ext.alloc ?_ _ | assumption | refine Ext.over ?_ _ | refine Ext.drew ?_ | refine Ext.drewN ?_ _)) hg (by simp) (by simp), (World.cell?_of_block hb).trans (by go_simp), (World.cell?_of_block hb).trans (by go_simp)⟩)
  obtain ⟨gd, hgd⟩ : ∃ gd, gd = w.heap.size + 1 := ⟨_, rfl⟩
  rw [← hgd] at hown ⊢
  have HGD := hid (show w.heap.size < gd by omega)
  have HO := hid hown
  clear hgd hown hg hz0 hz1 hz2 hi
  go_wp2_with fail
  go_loopw [6] (fun iv wr => ∃ (i : Nat) (cs : List Value), i ≤ h ∧ iv = .int .i64 ↑i ∧ wr.ownsRow w.heap.size 3 1 (.slice (some ⟨gd, 0, none⟩) h h) h cs ∧ Minus i cs ∧ Bx h A l.length c w wr) (fun iv _ => h - (intOf iv).toNat)
  case atStart => exact ⟨0, _, Nat.zero_le _, rfl, HO.out, fun j hj => by omega, HB.out⟩
  case round =>
    obtain ⟨i, cs, hi, rfl, hown, hm, hbx⟩ := hrel
    have b0 := hbx.2.1
    have b1 := hbx.2.2
    have HX := hid hbx
    have HW := hid hown
    have HM := hid hm
    clear hown hm hbx HO HB
    by_cases hlt : i < h
    · have hst := HW.out.stored i (.int .i64 (-1))
      have f1 := HW.out.frozenAt i
      have c1 : ∃ u, wr.cell? ⟨gd, i, none⟩ = some u := by
        rw [HW.out.cellAt i (by omega)]
        have := HW.out.1
        exact ⟨_, List.getElem?_eq_getElem (by omega)⟩
      obtain ⟨u, c1⟩ := c1
      have HS := hid hst
      clear hst
      go_wp2_with fail
      go_roundw
      case rel =>
        refine ⟨i + 1, _, by omega, by go_num, HS.out.1, fun j hj => ?_, HX.out.grown HS.out.2 HGD.out⟩
        have hl := HW.out.1
        by_cases hj' : j = i
        · subst hj'; rw [List.getElem?_set_self (by omega)]
        · rw [List.getElem?_set_ne (fun e => hj' e.symm)]; exact HM.out j (by omega)
      case measure => simp [intOf]; omega
    · have hih : h = i := by omega
      subst hih
      rename World => wd
      have HW2 := hid (show wd.ownsRow w.heap.size 3 1 (.slice (some ⟨gd, 0, none⟩) h h) h (distC h []) by
        have he : cs = List.replicate h (.int .i64 (-1)) := by
          apply List.ext_getElem?
          intro j
          have hl := HW.out.1
          rcases Nat.lt_or_ge j h with h1 | h1
          · rw [HM.out j h1]; simp [h1]
          · rw [List.getElem?_eq_none (by omega), List.getElem?_eq_none (by simpa using h1)]
        rw [distC_nil, ← he]; exact HW.out)
      have HGB := hid ((HW.out.lt gd rfl).2)
      clear HW HM
      have hst := HW2.out.stored a (.int .i64 0)
      have f1 := HW2.out.frozenAt a
      have c1 : wd.cell? ⟨gd, a, none⟩ = some (.int .i64 (-1)) := by rw [HW2.out.cellAt a (by omega), distC_get ha]; rfl
      have HS := hid hst
      have HX2 := hid (HX.out.grown hst.2 HGD.out)
      clear hst HX
      go_wp2_with fail
      go_loopw [7, 8] (fun lv kv wr => ∃ (k gL oL cL : Nat), k ≤ (bfs h (fun i j => hasD l i j) a k).length ∧ kv = .int .i64 ↑k ∧ lv = .slice (some ⟨gL, oL, none⟩) (bfs h (fun i j => hasD l i j) a k).length cL ∧ QAt wd.heap.size 3 wr (some ⟨gL, oL, none⟩) (bfs h (fun i j => hasD l i j) a k).length cL (vn (bfs h (fun i j => hasD l i j) a k)) ∧
        wr.ownsRow w.heap.size 3 1 (.slice (some ⟨gd, 0, none⟩) h h) h (distC h (bfs h (fun i j => hasD l i j) a k)) ∧ Bx h A l.length c w wr ∧ wd.heap.size ≤ wr.heap.size) (fun _ kv _ => h - (intOf kv).toNat)
      case atStart =>
        refine ⟨0, wd.heap.size, 0, 1, by omega, rfl, rfl, ?_, ?_, ?_, by simp⟩
        · have h1 := World.ownsRow_lit (base := wd.heap.size) (e := 3) (size := 1) (wd.setCell ⟨gd, a, none⟩ (.int .i64 0)) #[.int .i64 a] 1 (by simp) (by decide) rfl
          rw [World.size_setCell] at h1
          exact own_whole h1 (by simp)
        · have h1 := (HS.out.1).alloc (.cells #[.int .i64 a] 3)
          have h2 := distC_snoc (n := h) (L := []) (x := ⟨a, a, 0⟩) rfl
          rw [show bfs h (fun i j => hasD l i j) a 0 = [] ++ [⟨a, a, 0⟩] from rfl, h2]
          exact h1
        · exact HX2.out.ext (by repeat (first | exact Ext.refl _ | refine Ext.alloc ?_ _ | assumption | refine Ext.over ?_ _ | refine Ext.drew ?_ | refine Ext.drewN ?_ _))
      case round =>
        obtain ⟨k, gL, oL, cL, hk, rfl, rfl, hQ, hD, hbx, hsz⟩ := hrel
        clear HS HX2 HW2 c1 f1
        rename World => wo
        have hI := bfs_inv (adj := fun i j => hasD l i j) ha k
        have hst := bfs_pre (n := h) (adj := fun i j => hasD l i j) (a := a) (k := k)
        have htr := tree_of (adj := fun i j => hasD l i j) (k := k) ha
        have hLn := bfs_len (adj := fun i j => hasD l i j) ha k
        have hdl := fun x hx => depth_lt (n := h) (adj := fun i j => hasD l i j) (a := a) (k := k) ha (x := x) hx
        generalize hL : bfs h (fun i j => hasD l i j) a k = L at hk hQ hD hst htr hI hLn hdl ⊢
        have b0 := hbx.2.1
        have b1 := hbx.2.2
        by_cases hlt : k < L.length
        · have hpre := hst hlt
          obtain ⟨q, hqL⟩ : ∃ q, q = ndAt L k := ⟨_, rfl⟩
          have hqm : q ∈ L := hqL ▸ ndAt_mem hlt
          have hqn : q.v < h := hI.lt q hqm
          have hqd := hdl q hqm
          have hqs : seenIn L q.v = true := seenIn_iff.2 ⟨q, hqm, rfl⟩
          have hqD : distOf L q.v = q.d := distOf_mem hI.nodup hqm
          rw [← hqL] at hpre
          have HP := hid hpre
          have HI := hid hI
          have HQ := hid hQ
          have HD := hid hD
          have HX := hid hbx
          have HQV := hid (And.intro hqs hqD)
          have HQG := hid (show (vn L)[k]? = some (.int .i64 q.v) by rw [hqL, ndAt_eq _ _ hlt]; simp [vn, hlt])
          clear hpre hI hQ hD hst htr hqs hqD hqL hbx hdl
          go_wp2_with fail
          go_loopw [7, 9] (fun lv iv wr => ∃ (i gM oM cM : Nat), i ≤ h ∧ iv = .int .i64 ↑i ∧ lv = .slice (some ⟨gM, oM, none⟩) (L ++ news i (fun i j => hasD l i j) L q).length cM ∧ QAt wd.heap.size 3 wr (some ⟨gM, oM, none⟩) (L ++ news i (fun i j => hasD l i j) L q).length cM (vn (L ++ news i (fun i j => hasD l i j) L q)) ∧
            wr.ownsRow w.heap.size 3 1 (.slice (some ⟨gd, 0, none⟩) h h) h (distC h (L ++ news i (fun i j => hasD l i j) L q)) ∧ Bx h A l.length c w wr ∧ wd.heap.size ≤ wr.heap.size) (fun _ iv _ => h - (intOf iv).toNat)
          case atStart =>
            have h0 : L ++ news 0 (fun i j => hasD l i j) L q = L := by rw [news_zero, List.append_nil]
            exact ⟨0, gL, oL, cL, Nat.zero_le _, rfl, by rw [h0], by rw [h0]; exact HQ.out, by rw [h0]; exact HD.out, HX.out, hsz⟩
          case round =>
            obtain ⟨i, gM, oM, cM, hi, rfl, rfl, hQ, hD, hbx, hsz⟩ := hrel
            clear HQ HD HX b0 b1
            have b0 := hbx.2.1
            have b1 := hbx.2.2
            have hns := news_seen i (fun i j => hasD l i j) L q
            have hnst := news_step i (fun i j => hasD l i j) L q
            have hnl := news_len i (fun i j => hasD l i j) L q
            obtain ⟨M, hM⟩ : ∃ M, M = L ++ news i (fun i j => hasD l i j) L q := ⟨_, rfl⟩
            have hdq : distOf M q.v = q.d := by rw [hM, distOf_app HQV.out.1]; exact HQV.out.2
            have hMl : M.length ≤ 20 := by rw [hM, List.length_append]; omega
            have hkM : k < M.length := by rw [hM, List.length_append]; omega
            have hMk : (vn M)[k]? = some (.int .i64 q.v) := by
              rw [hM]; unfold vn; rw [List.map_append, List.getElem?_append_left (by simpa using hlt)]; exact HQG.out
            rw [← hM] at hQ hD hns ⊢
            obtain ⟨_, _, hA, hg3, hg4, hcell⟩ := hQ.at_
            injection hA with hA; injection hA with hA1 hA2; subst hA1 hA2
            have c1 := hcell k _ hMk
            have HQ := hid hQ
            have HD := hid hD
            have HX := hid hbx
            have HMM := hid hM
            have HRow := hid (hl.ext hbx.1)
            clear hcell hMk hQ hD hbx hM hnl
            by_cases hlt' : i < h
            · have c2 : wr.cell? ⟨gd, i, none⟩ = some (.int .i64 (distOf M i)) := by rw [HD.out.cellAt i (by omega)]; exact distC_get hlt'
              cases hs : seenIn L i
              · rw [hs] at hns hnst
                rw [distOf_none hns] at c2
                cases hd : hasD l i q.v
                · rw [hd] at hnst
                  have HM' := hid (show L ++ news (i + 1) (fun i j => hasD l i j) L q = M by rw [hnst, HMM.out]; simp)
                  clear hnst hns hs
                  go_wp2_with fail
                  (refine wp_region_calm (by kernel_rfl) (by kernel_rfl) ?_; (repeat (go_big_quiet_step ((go_at_call 55; exact (gives_b hd (l23Door_any _ _ _ _ l _ _ _ (HRow.out.ext (by repeat (first | exact Ext.refl _ | refine Ext.alloc ?_ _ | assumption | refine Ext.over ?_ _ | refine Ext.drew ?_ | refine Ext.drewN ?_ _))) rfl (by omega))).calm)))); refine wpQuiet_nil ?_; rintro w1 ⟨x1, rfl⟩)
                  go_wp2_with fail
                  have hx1 : Ext wr (ovr wr x1) := Ext.over (Ext.refl _) _
                  go_roundw
                  case rel => exact ⟨i + 1, gM, oM, cM, by omega, by go_num, by rw [HM'.out], by rw [HM'.out]; exact HQ.out.ext hx1, by rw [HM'.out]; exact own_ext HD.out hx1, HX.out.ext hx1, Nat.le_trans hsz hx1.size⟩
                  case measure => simp [intOf]; omega
                · rw [hd] at hnst
                  have HM' := hid (show L ++ news (i + 1) (fun i j => hasD l i j) L q = M ++ [⟨i, q.v, q.d + 1⟩] by rw [hnst, HMM.out]; simp)
                  have HS' := hid hns
                  have c3 : wr.cell? ⟨gd, q.v, none⟩ = some (.int .i64 q.d) := by rw [HD.out.cellAt q.v (by omega), ← hdq]; exact distC_get hqn
                  have f2 := HD.out.frozenAt i
                  clear hnst hns hs
                  go_wp2_with fail
                  (refine wp_region_calm (by kernel_rfl) (by kernel_rfl) ?_; (repeat (go_big_quiet_step ((go_at_call 55; exact (gives_b hd (l23Door_any _ _ _ _ l _ _ _ (HRow.out.ext (by repeat (first | exact Ext.refl _ | refine Ext.alloc ?_ _ | assumption | refine Ext.over ?_ _ | refine Ext.drew ?_ | refine Ext.drewN ?_ _))) rfl (by omega))).calm)))); refine wpQuiet_nil ?_; rintro w1 ⟨x1, rfl⟩)
                  have hx1 : Ext wr (ovr wr x1) := Ext.over (Ext.refl _) _
                  have d0 := old_cell hx1 b0
                  have d1 := old_cell hx1 b1
                  have d2 := old_cell hx1 c1
                  have d3 := old_cell hx1 c2
                  have d4 := old_cell hx1 c3
                  have hDv := own_ext HD.out hx1
                  have hQv := HQ.out.ext hx1
                  have hXv := HX.out.ext hx1
                  have hsv : wd.heap.size ≤ (ovr wr x1).heap.size := Nat.le_trans hsz hx1.size
                  clear b0 b1 c1 c2 c3 f2 hx1
                  generalize ovr wr x1 = wv at d0 d1 d2 d3 d4 hDv hQv hXv hsv ⊢
                  have f2 := hDv.frozenAt i
                  have hS := hDv.stored i (.int .i64 (↑q.d + 1))
                  have HG3 := hid hS.2
                  have HS3 := hid hS.1
                  have HQ3 := hid (hQv.kept hS.2 HGB.out)
                  have HX3 := hid (hXv.grown hS.2 HGD.out)
                  have HSZ := hid (show wd.heap.size ≤ (wv.setCell ⟨gd, i, none⟩ (.int .i64 (↑q.d + 1))).heap.size by rw [World.size_setCell]; exact hsv)
                  clear hS hDv hQv hXv hsv
                  go_wp2_with (at_builtin; refine wpList_pushQ rfl (.tmp 64) (.tmp 66) 31 rfl 3 Try.underlying31 info_int rfl wd.heap.size gM oM M.length cM _ rfl (wv.setCell ⟨gd, i, none⟩ (.int .i64 (↑q.d + 1))) HQ3.out (by repeat (first | exact Ext.refl _ | refine Ext.alloc ?_ _ | assumption | refine Ext.over ?_ _ | refine Ext.drew ?_ | refine Ext.drewN ?_ _)) HSZ.out _ 1 (.int .i64 i) rfl (lit_cells _ _ (by first | (simp; done) | simp [ovr_size]) _ _) rfl (by omega) (by decide) ?_)
                  intro g2 o2 c5 w3 hQ4 hgr hgg
                  have HQ4 := hid hQ4
                  have HD4 := hid (HS3.out.kept hgr (.inr (by intro h1; have h2 : gd = gM := (by simpa [Value.ownBlock] using h1); have := HGB.out; omega)))
                  have HX4 := hid (HX3.out.grown hgr (by have := HGB.out; have := HGD.out; omega))
                  have hB4 : wd.heap.size ≤ w3.heap.size := Nat.le_trans HSZ.out hgr.size
                  have HL4 := hid (show (L ++ news (i + 1) (fun i j => hasD l i j) L q).length = M.length + 1 by rw [HM'.out]; simp)
                  have HV4 := hid (show vn (L ++ news (i + 1) (fun i j => hasD l i j) L q) = vn M ++ [.int .i64 i] by rw [HM'.out]; simp [vn])
                  have HDC := hid (show distC h (L ++ news (i + 1) (fun i j => hasD l i j) L q) = (distC h M).set i (.int .i64 (↑q.d + 1)) by
                    rw [HM'.out]; exact distC_snoc (x := ⟨i, q.v, q.d + 1⟩) HS'.out)
                  clear hQ4 hgr hgg HS3 HX3 HQ3 HG3 HSZ hsz HQ HD HX
                  go_wp2_with fail
                  go_roundw
                  case rel => exact ⟨i + 1, g2, o2, c5, by omega, by go_num, by rw [HL4.out], by rw [HL4.out, HV4.out]; exact HQ4.out, by rw [HDC.out]; exact HD4.out, HX4.out, hB4⟩
                  case measure => simp [intOf]; omega
              · rw [hs] at hns hnst
                have HM' := hid (show L ++ news (i + 1) (fun i j => hasD l i j) L q = M by rw [hnst, HMM.out]; simp)
                obtain ⟨dz, hdz, hdd⟩ : ∃ dz : Int, decide (dz < 0) = false ∧ distOf M i = dz := by
                  obtain ⟨dd, hdd⟩ := distOf_seen hns
                  exact ⟨dd, by simp, hdd⟩
                rw [hdd] at c2
                clear hnst hns hs hdd
                go_wp2_with fail
                (refine wp_region_calm (by kernel_rfl) (by kernel_rfl) ?_; (repeat (go_big_quiet_step ((go_at_call 55; exact (l23Door_any _ _ _ _ l _ _ _ (HRow.out.ext (by repeat (first | exact Ext.refl _ | refine Ext.alloc ?_ _ | assumption | refine Ext.over ?_ _ | refine Ext.drew ?_ | refine Ext.drewN ?_ _))) rfl (by omega)).calm)))); refine wpQuiet_nil ?_; rintro w1 ⟨x1, rfl⟩)
                go_wp2_with fail
                have hx1 : Ext wr (ovr wr x1) := Ext.over (Ext.refl _) _
                go_roundw
                case rel => exact ⟨i + 1, gM, oM, cM, by omega, by go_num, by rw [HM'.out], by rw [HM'.out]; exact HQ.out.ext hx1, by rw [HM'.out]; exact own_ext HD.out hx1, HX.out.ext hx1, Nat.le_trans hsz hx1.size⟩
                case measure => simp [intOf]; omega
            · have hih : i = h := by omega
              have HB' := hid (show bfs h (fun i j => hasD l i j) a (k + 1) = M by rw [HP.out, HMM.out, hih])
              clear hnst hns
              go_wp2_with fail
              go_roundw
              case rel => exact ⟨k + 1, gM, oM, cM, by rw [HB'.out]; omega, by go_num, by rw [HB'.out], by rw [HB'.out]; exact HQ.out, by rw [HB'.out]; exact HD.out, HX.out, hsz⟩
              case measure => simp [intOf]; omega
        · have hLt : L = tree h (fun i j => hasD l i j) a := htr (by omega)
          have HD := hid hD
          have HX := hid hbx
          have HLT := hid hLt
          clear hI hQ hD hst htr hL hLt hbx hdl
          go_wp2_with fail
          go_ret
          exact ⟨gd, rfl, by rw [← HLT.out]; exact HD.out, HX.out.1⟩
end Go.Proofs.Ytngniniiohgilaa
