/- The walk of FnPatrols: it returns true. Conditions: its arguments read as lists. (P22) -/
import Derived.Test.YtkifapcegiajiaaMFnPatrols
namespace Go.Proofs.Ytkifapcegiajiaa
open Go.RowKit
set_option linter.unusedVariables false
namespace fnPatrols
theorem useK {A B : Prop} (p : A) (h : A → B) : B := h p
theorem wpZ_skip {P : Program} {ops : Array Oper} {R : World → World → Prop} {w1 : World} {Q : Act → World → Prop} {a : Act} {w : World} {o : Oper} {r : List StO} (hn : Region.wanted o (yielded ops a.tmps) = false)
    (h : ∀ K : Act → Prop, (∀ a, wpZ P ops R w1 Q r a w → K a) → K (a.put o.dst undef)) : wpZ P ops R w1 Q (.q o :: r) a w :=
  wpZ_q fun K hK => by rw [hn, if_neg (by simp)]; exact h K hK
theorem part_rows {w : World} {b off : Nat} {P : List T2} (h : Row w (some ⟨b, off, none⟩) (P.flatMap T2.v)) (k : Nat) : Row w (some ⟨b, off, none⟩) ((P.take k).flatMap T2.v) ∧ Row w (some ⟨b, off + k * 2, none⟩) ((P.drop k).flatMap T2.v) :=
  ⟨by rw [← flat_take T2.v 2 T2.len]; exact row_take h _, by rw [← flat_drop T2.v 2 T2.len]; exact row_drop h _⟩
attribute [local irreducible] wpZ
set_option maxHeartbeats 16000000 in
set_option maxRecDepth 100000 in
theorem walk (w : World) (A0 : Option Addr) (n0 c0 : Nat) (zs0 : List Int) (hr0 : Row w A0 (zs0.map (Value.int .u8))) (hl0 : zs0.length = n0) (hn0 : n0 ≤ maxLen) (hz0 : ∀ z ∈ zs0, 0 ≤ z ∧ z ≤ 255) : Gives Try.prog 4 #[.slice A0 n0 c0] w (.bool true) := by
  unfold maxLen at hn0
  have HZ := hid hz0
  clear hz0
  by_cases hbig : (1048576 : Int) < n0
  · have hb := decide_eq_true hbig
    (unfold Gives; go_enter Try.func4, Try.ntmps4)
    go_wp2_with (go_at_call 16; refine (gives_b hb (big_any _ _ _ _)).over.mono ?_; rintro e w' ⟨rfl, xw, rfl⟩)
    go_ret
    exact ⟨rfl, by repeat (first | exact Ext.refl _ | refine Ext.alloc ?_ _ | assumption | refine Ext.over ?_ _ | refine Ext.drew ?_ | refine Ext.drewN ?_ _)⟩
  have hb := decide_eq_false hbig
  have HAT := hid (fun (i : Nat) w' (e : Ext w w') (hi : i ≤ 100) => at_any A0 n0 c0 zs0 i w' (hr0.ext e) hl0 (by omega) hi HZ.out)
  have HAB := hid (atV_bound HZ.out)
  (unfold Gives; go_enter Try.func4, Try.ntmps4)
  go_wp2_with (go_at_call 16; refine (gives_b hb (big_any _ _ _ _)).over.mono ?_; rintro e w' ⟨rfl, xw, rfl⟩)
  refine (DrawPatrol_any A0 n0 c0 zs0 _ (hr0.ext (by repeat (first | exact Ext.refl _ | refine Ext.alloc ?_ _ | assumption | refine Ext.over ?_ _ | refine Ext.drew ?_ | refine Ext.drewN ?_ _))) hl0 (by omega) HZ.out).mono ?_
  rintro _ w1 ⟨A, n, c, L, gB, m, d, P, rfl, hll, hro, hpm, hmd, hpat, hla, hlp, he⟩
  have hn10 : n ≤ 10 := by have := (roomP_of hro).hi; omega
  have hm40 := patrol_len hpat
  rw [hpm] at hm40
  have HE := hid (Ext.trans (show Ext w _ by repeat (first | exact Ext.refl _ | refine Ext.alloc ?_ _ | assumption | refine Ext.over ?_ _ | refine Ext.drew ?_ | refine Ext.drewN ?_ _)) he)
  have HA := hid hla
  have HLL := hid hll
  have HPM := hid hpm
  have HPA := hid hpat
  generalize hB : (some (⟨gB, 0, none⟩ : Addr)) = B at hlp ⊢
  obtain ⟨gb, ob, hB2⟩ : ∃ g o, B = some (⟨g, o, none⟩ : Addr) := ⟨gB, 0, hB.symm⟩
  clear hB
  subst hB2
  have HP := hid hlp
  clear hla hll hpm hpat hlp he hbig hb hr0 hl0
  have hm1 : ¬ (m : Int) = 0 := by omega
  have hm0 : 0 < m := by omega
  go_wp2_with fail
  refine (HAT.out 0 _ (HE.out.trans (by repeat (first | exact Ext.refl _ | refine Ext.alloc ?_ _ | assumption | refine Ext.over ?_ _ | refine Ext.drew ?_ | refine Ext.drewN ?_ _))) (by omega)).mono ?_
  rintro _ w2 ⟨rfl, he⟩
  have hb0 := HAB.out 0
  generalize atV zs0 0 = av at hb0 ⊢
  obtain ⟨k, hk⟩ : ∃ k : Nat, (k : Int) = av % (m : Int) := ⟨(av % (m : Int)).toNat, by
    have := Int.emod_nonneg av (show (m : Int) ≠ 0 by omega); omega⟩
  have hkm : k < m := by have := Int.emod_lt_of_pos av (show (0 : Int) < m by omega); omega
  have hmod := hk.symm
  have r0 := old_cell he (show (w1.alloc (.cells #[.slice A n c] 33)).cell? ⟨w1.heap.size, 0, none⟩ = some (.slice A n c) by go_simp)
  have HE2 := hid ((HE.out.trans (show Ext w1 (w1.alloc (.cells #[.slice A n c] 33)) by repeat (first | exact Ext.refl _ | refine Ext.alloc ?_ _ | assumption | refine Ext.over ?_ _ | refine Ext.drew ?_ | refine Ext.drewN ?_ _))).trans he)
  have HA2 := hid ((HA.out.ext (show Ext w1 (w1.alloc (.cells #[.slice A n c] 33)) by repeat (first | exact Ext.refl _ | refine Ext.alloc ?_ _ | assumption | refine Ext.over ?_ _ | refine Ext.drew ?_ | refine Ext.drewN ?_ _))).ext he)
  have HP2 := hid ((HP.out.ext (show Ext w1 (w1.alloc (.cells #[.slice A n c] 33)) by repeat (first | exact Ext.refl _ | refine Ext.alloc ?_ _ | assumption | refine Ext.over ?_ _ | refine Ext.drew ?_ | refine Ext.drewN ?_ _))).ext he)
  clear he HE HA HP hk
  have hkt : (k : Int) < m := by omega
  go_wp2_with fail
  generalize w1.heap.size = br at r0 ⊢
  have hkd : k ≤ d := by omega
  have hkd' : (k : Int) ≤ d := by omega
  have hkm' : (k : Int) ≤ m := by omega
  have hk0 : (0 : Int) ≤ k := by omega
  have hdk : ¬ d = k := by omega
  have hmd' : (m : Int) ≤ d := by omega
  have hkm2 : k ≤ m := by omega
  clear hb0
  rw [hmod]
  refine wp_region_x [.q 1, .q 2, .q 3, .q 5, .q 6, .q 7, .u 0, .u 4, .u 8, .u 9] (by kernel_rfl) (by kernel_rfl) (fun wa ea => ?_)
  have ea' : Ext w2 wa := Ext.trans (by repeat (first | exact Ext.refl _ | refine Ext.alloc ?_ _ | assumption | refine Ext.over ?_ _ | refine Ext.drew ?_ | refine Ext.drewN ?_ _)) ea
  have HPa := hid (part_rows (HP2.out.ext ea') k)
  have HX := hid ea'
  clear ea ea'
  simp only [pick, List.getElem?_cons_succ, List.getElem?_cons_zero]
  repeat (refine wpZ_q (fun K hK => ?_); go_simp; refine hK _ ?_; clear hK K)
  refine wpZ_u ?_
  refine stepH_of (fun K hK => ?_)
  go_simp
  refine hK _ _ (Below.alloc (Below.refl _ _) (Nat.le_refl _) _) ?_; clear hK K
  have HO4 := hid (own_empty wa wa.heap.size wa.heap.size rfl (Nat.le_refl _) 35 2)
  refine wpZ_u ?_
  refine stepH_of (fun K hK => ?_)
  rw [if_pos (by rfl)]
  refine her_pushS wa (.tmp 25) (.tmp 28) 31 rfl 35 Try.underlying31 info_PointC rfl (by decide) _ 0 [] rfl HO4.out (by repeat (first | exact Ext.refl _ | refine Ext.alloc ?_ _ | assumption | refine Ext.over ?_ _ | refine Ext.drew ?_ | refine Ext.drewN ?_ _)) (some ⟨gb, ob + k * 2, none⟩) (m - k) (d - k) ((P.drop k).flatMap T2.v) rfl (by intro h; cases h) (by rw [flat_len _ 2 T2.len, List.length_drop, HPM.out]) (HPa.out.2.ext (by repeat (first | exact Ext.refl _ | refine Ext.alloc ?_ _ | assumption | refine Ext.over ?_ _ | refine Ext.drew ?_ | refine Ext.drewN ?_ _))) oneP' (by omega) (by decide) ?_
  intro A5 c5 wb ho5 he5 hg5
  refine hK _ _ (grown_below hg5 HO4.out (Nat.le_refl _) (by simp)) ?_; clear hK K
  rw [Nat.zero_add, List.nil_append] at ho5
  rw [Nat.zero_add]
  have HO5 := hid ho5
  have HE5 := hid he5
  clear ho5 he5 hg5
  refine wpZ_u ?_
  refine stepH_of (fun K hK => ?_)
  rw [if_pos (by rfl)]
  refine her_pushS wa (.tmp 29) (.tmp 32) 31 rfl 35 Try.underlying31 info_PointC rfl (by decide) _ (m - k) ((P.drop k).flatMap T2.v) rfl HO5.out HE5.out (some ⟨gb, ob, none⟩) k d ((P.take k).flatMap T2.v) rfl (by intro h; cases h) (by rw [flat_len _ 2 T2.len, List.length_take, HPM.out]; congr 1; omega) (HPa.out.1.ext HE5.out) oneP' (by omega) (by decide) ?_
  intro A6 c6 w6 ho6 he6 hg6
  refine hK _ _ (grown_below hg6 HO5.out (Nat.le_refl _) HE5.out.size) ?_; clear hK K
  obtain ⟨Q, hQ⟩ : ∃ Q, Q = P.drop k ++ P.take k := ⟨_, rfl⟩
  have HQ6 := hid (show Row w6 A6 (Q.flatMap T2.v) by rw [hQ, List.flatMap_append]; exact Row.of_own ho6)
  have hlike := like_rot k P (by rw [HPM.out]; exact hkm2) HPA.out
  rw [← hQ] at hlike
  have HLK := hid hlike
  have HQL := hid (show Q.length = m by rw [hlike.2.1]; exact HPM.out)
  have ex := HX.out.trans he6
  have r0 := old_cell ex r0
  have HE6 := hid (HE2.out.trans ex)
  have HA6 := hid (HA2.out.ext ex)
  have HP6 := hid (HP2.out.ext ex)
  clear ho6 he6 hg6 HO5 HE5 HO4 HPa HX hlike hQ ex HE2 HA2 HP2
  ((first | refine wpZ_u ?_ | skip); refine stepH_of (fun K hK => ?_); go_simp; refine hK _ _ (Below.refl _ _) ?_; clear hK K)
  refine wpZ_nil ?_
  have HFR := hid (show floorR L = floorL L by unfold floorR; rw [hro]; rfl)
  have hfl := floor_len hro
  have hf0 := floor_ne hro
  go_wp2_with fail
  refine (sFloor_any A n c L w6 HA6.out HLL.out (by omega)).mono ?_
  rintro _ w7 ⟨D, nf, cf, rfl, ho, he⟩
  rw [HFR.out] at ho
  have hnf := own_len2 ho
  have HF := hid (Row.of_own ho)
  have HFL := hid hnf
  have HE7 := hid (HE6.out.trans he)
  have HA7 := hid (HA6.out.ext he)
  have HP7 := hid (HP6.out.ext he)
  have HQ7 := hid (HQ6.out.ext he)
  have r0 := old_cell he r0
  have hnf0 : 0 < nf := by omega
  have hnf1 : ¬ (nf : Int) = 0 := by omega
  clear ho he hnf HE6 HA6 HP6 HQ6
  go_wp2_with fail
  refine (HAT.out 1 _ HE7.out (by omega)).mono ?_
  rintro _ w8 ⟨rfl, he⟩
  have hb1 := HAB.out 1
  generalize atV zs0 1 = av1 at hb1 ⊢
  obtain ⟨j, hj⟩ : ∃ j : Nat, (j : Int) = av1 % (nf : Int) := ⟨(av1 % (nf : Int)).toNat, by
    have := Int.emod_nonneg av1 (show (nf : Int) ≠ 0 by omega); omega⟩
  have hjf : j < nf := by have := Int.emod_lt_of_pos av1 (show (0 : Int) < nf by omega); omega
  have hjft : (j : Int) < nf := by omega
  have hmod1 := hj.symm
  have HE8 := hid (HE7.out.trans he)
  have HA8 := hid (HA7.out.ext he)
  have HP8 := hid (HP7.out.ext he)
  have HQ8 := hid (HQ7.out.ext he)
  have HF8 := hid (HF.out.ext he)
  have r0 := old_cell he r0
  have hjl : j < (floorL L).length := by have := HFL.out; omega
  obtain ⟨bf, of', hDD, hcf⟩ := HF8.out.t2 hjl
  obtain ⟨x0, x1⟩ := hcf j hjl
  have HG := hid (law_gap HPA.out hjl)
  have HSN := hid (law_seen (L := L) (P := P) (at2 (floorL L) j))
  have HGQ := hid (like_gapR HPA.out HLK.out (at2 (floorL L) j))
  have HWQ := hid (like_worst HPA.out HLK.out)
  subst hDD
  clear hcf he hj HE7 HA7 HP7 HQ7 HF
  obtain ⟨xa, hxa⟩ : ∃ xa, xa = (at2 (floorL L) j).a := ⟨_, rfl⟩
  obtain ⟨xb, hxb⟩ : ∃ xb, xb = (at2 (floorL L) j).b := ⟨_, rfl⟩
  have hxx : at2 (floorL L) j = ⟨xa, xb⟩ := by rw [hxa, hxb]
  rw [hxx] at HG HSN HGQ
  rw [← hxa] at x0
  rw [← hxb] at x1
  clear hxa hxb hxx
  obtain ⟨gv, hgv⟩ : ∃ gv, gv = gapR L P ⟨xa, xb⟩ := ⟨_, rfl⟩
  obtain ⟨wv, hwv⟩ : ∃ wv, wv = worstR L P := ⟨_, rfl⟩
  obtain ⟨sl, hsl⟩ : ∃ sl, sl = (seenL L P ⟨xa, xb⟩).length := ⟨_, rfl⟩
  have hg := HG.out
  have hsn := HSN.out
  rw [← hgv, ← hwv, HPM.out] at hg
  rw [← hgv, ← hsl] at hsn
  have hwp := worst_pos L P
  rw [← hwv] at hwp
  have hwa : seesAllR L P = watchR L P := by rw [watch_all, HPA.out]; rfl
  have HWP := hid hwp
  have HWA := hid hwa
  have HWV := hid (fun w' (e : Ext w8 w') B' m' d' (h : (B' = some (⟨gb, ob, none⟩ : Addr) ∧ m' = m ∧ d' = d) ∨ (B' = A6 ∧ m' = m ∧ d' = c6)) => show Gives Try.prog 21 #[.agg #[.slice A n c], .slice B' m' d'] w' (.int .i64 wv) from by
    rcases h with ⟨rfl, rfl, rfl⟩ | ⟨rfl, rfl, rfl⟩
    · exact gives_v hwv.symm (iWorst_any A n c L _ _ _ P w' (HA8.out.ext e) HLL.out (by omega) (HP8.out.ext e) HPM.out (by omega))
    · exact gives_v (HWQ.out.trans hwv.symm) (iWorst_any A n c L _ _ _ Q w' (HA8.out.ext e) HLL.out (by omega) (HQ8.out.ext e) HQL.out (by omega)))
  have HGV := hid (fun w' (e : Ext w8 w') B' m' d' (h : (B' = some (⟨gb, ob, none⟩ : Addr) ∧ m' = m ∧ d' = d) ∨ (B' = A6 ∧ m' = m ∧ d' = c6)) => show Gives Try.prog 20 #[.agg #[.slice A n c], .slice B' m' d', .agg #[.int .i64 xa, .int .i64 xb]] w' (.int .i64 gv) from by
    rcases h with ⟨rfl, rfl, rfl⟩ | ⟨rfl, rfl, rfl⟩
    · exact gives_v hgv.symm (iGap_at A n c L _ _ _ P xa xb w' (HA8.out.ext e) HLL.out (by omega) (HP8.out.ext e) HPM.out (by omega))
    · exact gives_v (HGQ.out.trans hgv.symm) (iGap_at A n c L _ _ _ Q xa xb w' (HA8.out.ext e) HLL.out (by omega) (HQ8.out.ext e) HQL.out (by omega)))
  have HPV := hid (fun w' (e : Ext w8 w') => gives_b HPA.out (iPatrol_any A n c L (some ⟨gb, ob, none⟩) m d P w' (HA8.out.ext e) HLL.out (by omega) (HP8.out.ext e) HPM.out (by omega)))
  have HSV := hid (fun w' (e : Ext w8 w') => show Calls Try.prog 24 #[.agg #[.slice A n c], .slice (some ⟨gb, ob, none⟩) m d, .agg #[.int .i64 xa, .int .i64 xb]] w' fun en w'' => ∃ A' c', en = .returned (.slice A' sl c') ∧ Ext w' w'' from by
    refine (iSeenOn_at A n c L (some ⟨gb, ob, none⟩) m d P xa xb w' (HA8.out.ext e) HLL.out (by omega) (HP8.out.ext e) HPM.out (by omega)).mono ?_
    rintro _ w'' ⟨A', m', c', rfl, ho, he⟩
    obtain rfl : sl = m' := by rw [hsl]; exact own_len1S ho
    exact ⟨A', c', rfl, he⟩)
  have HWB := hid (fun b (hb : watchR L P = b) w' (e : Ext w8 w') => gives_b hb (iWatches_any A n c L (some ⟨gb, ob, none⟩) m d P w' (HA8.out.ext e) HLL.out (by omega) (HP8.out.ext e) HPM.out (by omega)))
  have HAB2 := hid (fun b (hb : seesAllR L P = b) w' (e : Ext w8 w') => gives_b hb (seesAll_any A n c L (some ⟨gb, ob, none⟩) m d P w' (HA8.out.ext e) HLL.out (by omega) (HP8.out.ext e) HPM.out (by omega)))
  clear hwp hwa hgv hwv hsl HG HSN
  go_wp2_with (first | (go_at_call 21; refine (HWV.out _ (by repeat (first | exact Ext.refl _ | refine Ext.alloc ?_ _ | assumption | refine Ext.over ?_ _ | refine Ext.drew ?_ | refine Ext.drewN ?_ _)) _ _ _ (.inl ⟨rfl, rfl, rfl⟩)).over.mono ?_; rintro e w' ⟨rfl, xw, rfl⟩) | (go_at_call 20; refine (HGV.out _ (by repeat (first | exact Ext.refl _ | refine Ext.alloc ?_ _ | assumption | refine Ext.over ?_ _ | refine Ext.drew ?_ | refine Ext.drewN ?_ _)) _ _ _ (.inl ⟨rfl, rfl, rfl⟩)).over.mono ?_; rintro e w' ⟨rfl, xw, rfl⟩))
  have p0 := (fresh_cells (w1 := w8) (cs := #[.int .i64 xa, .int .i64 xb]) (t := 35) (Ext.refl _) (j := 0) rfl).1
  have p1 := (fresh_cells (w1 := w8) (cs := #[.int .i64 xa, .int .i64 xb]) (t := 35) (Ext.refl _) (j := 1) rfl).1
  have r1 := old_cell (show Ext w8 (w8.alloc (.cells #[.int .i64 xa, .int .i64 xb] 35)) by repeat (first | exact Ext.refl _ | refine Ext.alloc ?_ _ | assumption | refine Ext.over ?_ _ | refine Ext.drew ?_ | refine Ext.drewN ?_ _)) r0
  refine wp_region_x (Stp.q 0 :: Stp.q 1 :: Stp.u 2 :: Stp.q 3 :: Stp.q 4 :: Stp.q 5 :: Stp.q 7 :: Stp.u 6 :: Stp.q 8 :: Stp.q 9 :: Stp.q 10 :: Stp.q 11 :: Stp.q 12 :: Stp.q 13 :: Stp.q 15 :: Stp.u 14 :: Stp.q 16 :: Stp.q 17 :: Stp.q 18 :: Stp.q 19 :: Stp.q 20 :: Stp.q 21 :: Stp.q 22 :: Stp.u 23 :: Stp.q 24 :: Stp.q 25 :: Stp.q 26 :: Stp.q 27 :: Stp.q 28 :: Stp.q 29 :: Stp.q 30 :: Stp.q 31 :: Stp.q 32 :: Stp.q 33 :: Stp.q 34 :: Stp.q 35 :: Stp.q 36 :: Stp.q 37 :: Stp.q 38 :: Stp.q 39 :: Stp.q 40 :: Stp.q 41 :: Stp.q 42 :: Stp.q 43 :: Stp.q 44 :: Stp.q 45 :: Stp.q 46 :: Stp.q 47 :: Stp.q 48 :: Stp.q 49 :: Stp.u 50 :: Stp.q 51 :: Stp.q 52 :: Stp.q 53 :: Stp.q 54 :: Stp.q 55 :: Stp.q 56 :: Stp.q 57 :: Stp.q 59 :: Stp.q 60 :: Stp.u 58 :: Stp.u 61 :: Stp.q 62 :: Stp.q 63 :: Stp.q 64 :: []) (by kernel_rfl) (by kernel_rfl) (fun w9 e9 => ?_)
  have X9 := hid (show Ext (w8.alloc (.cells #[.int .i64 xa, .int .i64 xb] 35)) w9 from Ext.trans (by repeat (first | exact Ext.refl _ | refine Ext.alloc ?_ _ | assumption | refine Ext.over ?_ _ | refine Ext.drew ?_ | refine Ext.drewN ?_ _)) e9)
  have p0 := old_cell X9.out p0
  have p1 := old_cell X9.out p1
  have r1 := old_cell X9.out r1
  have E9 := hid (show Ext w8 w9 from Ext.trans (by repeat (first | exact Ext.refl _ | refine Ext.alloc ?_ _ | assumption | refine Ext.over ?_ _ | refine Ext.drew ?_ | refine Ext.drewN ?_ _)) X9.out)
  have Z9 := hid (Ext.refl w9)
  generalize w8.heap.size = bx at p0 p1 ⊢
  clear e9 X9 r0
  dsimp only [List.append]
  simp only [pick, List.getElem?_cons_succ, List.getElem?_cons_zero]
  by_cases hw0 : wv < 0
  · have hwt : watchR L P = false := by rw [HWP.out]; exact decide_eq_false (by omega)
    have HW2 := hid (HWB.out false hwt)
    have HS2 := hid (HAB2.out false (by rw [HWA.out]; exact hwt))
    clear hwt hg
    have hw1 : ¬ 0 < wv := by omega
    by_cases hg0 : gv < 0
    · have hs0 : ((sl : Int) == 0) = true := by rw [beq_iff_eq]; have := hsn.1 hg0; omega
      clear hsn
      (refine wpZ_q (fun K hK => ?_); go_simp; refine hK _ ?_; clear hK K)
      (refine wpZ_q (fun K hK => ?_); go_simp; refine hK _ ?_; clear hK K)
      refine wpZ_u ?_
      refine stepH_of (fun K hK => ?_)
      go_simp
      refine (HPV.out w9 (E9.out)).mono ?_
      rintro _ w10 ⟨rfl, e10⟩
      refine ⟨_, rfl, hK _ _ (ext_below e10 Z9.out.size) ?_⟩; clear hK K
      have E10 := hid (E9.out.trans e10)
      have Z10 := hid (Z9.out.trans e10)
      clear e10 E9 Z9
      (refine wpZ_q (fun K hK => ?_); go_simp; refine hK _ ?_; clear hK K)
      (refine wpZ_q (fun K hK => ?_); go_simp; refine hK _ ?_; clear hK K)
      (refine wpZ_q (fun K hK => ?_); go_simp; refine hK _ ?_; clear hK K)
      (refine wpZ_q (fun K hK => ?_); go_simp; refine hK _ ?_; clear hK K)
      refine wpZ_u ?_
      refine stepH_of (fun K hK => ?_)
      go_simp
      refine (HWV.out w10 (E10.out) _ _ _ (.inr ⟨rfl, rfl, rfl⟩)).mono ?_
      rintro _ w11 ⟨rfl, e11⟩
      refine ⟨_, rfl, hK _ _ (ext_below e11 Z10.out.size) ?_⟩; clear hK K
      have E11 := hid (E10.out.trans e11)
      have Z11 := hid (Z10.out.trans e11)
      clear e11 E10 Z10
      (refine wpZ_q (fun K hK => ?_); go_simp; refine hK _ ?_; clear hK K)
      (refine wpZ_q (fun K hK => ?_); go_simp; refine hK _ ?_; clear hK K)
      (refine wpZ_q (fun K hK => ?_); go_simp; refine hK _ ?_; clear hK K)
      (refine wpZ_q (fun K hK => ?_); go_simp; refine hK _ ?_; clear hK K)
      (refine wpZ_q (fun K hK => ?_); go_simp; refine hK _ ?_; clear hK K)
      (refine wpZ_q (fun K hK => ?_); go_simp; refine hK _ ?_; clear hK K)
      (refine wpZ_q (fun K hK => ?_); go_simp; refine hK _ ?_; clear hK K)
      refine wpZ_u ?_
      refine stepH_of (fun K hK => ?_)
      go_simp
      refine (HGV.out w11 (E11.out) _ _ _ (.inr ⟨rfl, rfl, rfl⟩)).mono ?_
      rintro _ w12 ⟨rfl, e12⟩
      refine ⟨_, rfl, hK _ _ (ext_below e12 Z11.out.size) ?_⟩; clear hK K
      have E12 := hid (E11.out.trans e12)
      have Z12 := hid (Z11.out.trans e12)
      clear e12 E11 Z11
      (refine wpZ_q (fun K hK => ?_); go_simp; refine hK _ ?_; clear hK K)
      (refine wpZ_q (fun K hK => ?_); go_simp; refine hK _ ?_; clear hK K)
      (refine wpZ_q (fun K hK => ?_); go_simp; refine hK _ ?_; clear hK K)
      (refine wpZ_q (fun K hK => ?_); go_simp; refine hK _ ?_; clear hK K)
      (refine wpZ_q (fun K hK => ?_); go_simp; refine hK _ ?_; clear hK K)
      (refine wpZ_q (fun K hK => ?_); go_simp; refine hK _ ?_; clear hK K)
      (refine wpZ_q (fun K hK => ?_); go_simp; refine hK _ ?_; clear hK K)
      refine wpZ_u ?_
      refine stepH_of (fun K hK => ?_)
      go_simp
      refine (HW2.out w12 (E12.out)).mono ?_
      rintro _ w13 ⟨rfl, e13⟩
      refine ⟨_, rfl, hK _ _ (ext_below e13 Z12.out.size) ?_⟩; clear hK K
      have E13 := hid (E12.out.trans e13)
      have Z13 := hid (Z12.out.trans e13)
      clear e13 E12 Z12
      (refine wpZ_q (fun K hK => ?_); go_simp; refine hK _ ?_; clear hK K)
      (refine wpZ_q (fun K hK => ?_); go_simp; refine hK _ ?_; clear hK K)
      (refine wpZ_q (fun K hK => ?_); go_simp; refine hK _ ?_; clear hK K)
      (refine wpZ_q (fun K hK => ?_); go_simp; refine hK _ ?_; clear hK K)
      (refine wpZ_q (fun K hK => ?_); go_simp; refine hK _ ?_; clear hK K)
      (refine wpZ_q (fun K hK => ?_); go_simp; refine hK _ ?_; clear hK K)
      (refine wpZ_skip (by kernel_rfl) (fun K hK => ?_); go_simp; refine hK _ ?_; clear hK K)
      (refine wpZ_skip (by kernel_rfl) (fun K hK => ?_); go_simp; refine hK _ ?_; clear hK K)
      (refine wpZ_skip (by kernel_rfl) (fun K hK => ?_); go_simp; refine hK _ ?_; clear hK K)
      (refine wpZ_skip (by kernel_rfl) (fun K hK => ?_); go_simp; refine hK _ ?_; clear hK K)
      (refine wpZ_skip (by kernel_rfl) (fun K hK => ?_); go_simp; refine hK _ ?_; clear hK K)
      (refine wpZ_skip (by kernel_rfl) (fun K hK => ?_); go_simp; refine hK _ ?_; clear hK K)
      (refine wpZ_skip (by kernel_rfl) (fun K hK => ?_); go_simp; refine hK _ ?_; clear hK K)
      (refine wpZ_skip (by kernel_rfl) (fun K hK => ?_); go_simp; refine hK _ ?_; clear hK K)
      (refine wpZ_skip (by kernel_rfl) (fun K hK => ?_); go_simp; refine hK _ ?_; clear hK K)
      (refine wpZ_skip (by kernel_rfl) (fun K hK => ?_); go_simp; refine hK _ ?_; clear hK K)
      (refine wpZ_skip (by kernel_rfl) (fun K hK => ?_); go_simp; refine hK _ ?_; clear hK K)
      (refine wpZ_skip (by kernel_rfl) (fun K hK => ?_); go_simp; refine hK _ ?_; clear hK K)
      (refine wpZ_q (fun K hK => ?_); go_simp; refine hK _ ?_; clear hK K)
      (refine wpZ_q (fun K hK => ?_); go_simp; refine hK _ ?_; clear hK K)
      (refine wpZ_q (fun K hK => ?_); go_simp; refine hK _ ?_; clear hK K)
      (refine wpZ_q (fun K hK => ?_); go_simp; refine hK _ ?_; clear hK K)
      (refine wpZ_q (fun K hK => ?_); go_simp; refine hK _ ?_; clear hK K)
      (refine wpZ_q (fun K hK => ?_); go_simp; refine hK _ ?_; clear hK K)
      (refine wpZ_q (fun K hK => ?_); go_simp; refine hK _ ?_; clear hK K)
      (refine wpZ_q (fun K hK => ?_); go_simp; refine hK _ ?_; clear hK K)
      refine wpZ_u ?_
      refine stepH_of (fun K hK => ?_)
      go_simp
      refine (HSV.out w13 E13.out).mono ?_
      rintro _ w14 ⟨AS, cS, rfl, e14⟩
      refine ⟨_, rfl, hK _ _ (ext_below e14 Z13.out.size) ?_⟩; clear hK K
      have E14 := hid (E13.out.trans e14)
      have Z14 := hid (Z13.out.trans e14)
      clear e14 E13 Z13
      (refine wpZ_q (fun K hK => ?_); go_simp; refine hK _ ?_; clear hK K)
      (refine wpZ_q (fun K hK => ?_); go_simp; refine hK _ ?_; clear hK K)
      (refine wpZ_q (fun K hK => ?_); go_simp; refine hK _ ?_; clear hK K)
      (refine wpZ_q (fun K hK => ?_); go_simp; refine hK _ ?_; clear hK K)
      (refine wpZ_q (fun K hK => ?_); go_simp; refine hK _ ?_; clear hK K)
      (refine wpZ_q (fun K hK => ?_); go_simp; refine hK _ ?_; clear hK K)
      (refine wpZ_q (fun K hK => ?_); go_simp; refine hK _ ?_; clear hK K)
      (refine wpZ_q (fun K hK => ?_); go_simp; refine hK _ ?_; clear hK K)
      (refine wpZ_q (fun K hK => ?_); go_simp; refine hK _ ?_; clear hK K)
      refine wpZ_u ?_
      refine stepH_of (fun K hK => ?_)
      go_simp
      refine (HW2.out w14 (E14.out)).mono ?_
      rintro _ w15 ⟨rfl, e15⟩
      refine ⟨_, rfl, hK _ _ (ext_below e15 Z14.out.size) ?_⟩; clear hK K
      have E15 := hid (E14.out.trans e15)
      have Z15 := hid (Z14.out.trans e15)
      clear e15 E14 Z14
      refine wpZ_u ?_
      refine stepH_of (fun K hK => ?_)
      go_simp
      refine (HS2.out w15 (E15.out)).mono ?_
      rintro _ w16 ⟨rfl, e16⟩
      refine ⟨_, rfl, hK _ _ (ext_below e16 Z15.out.size) ?_⟩; clear hK K
      have E16 := hid (E15.out.trans e16)
      have Z16 := hid (Z15.out.trans e16)
      clear e16 E15 Z15
      (refine wpZ_q (fun K hK => ?_); go_simp; refine hK _ ?_; clear hK K)
      (refine wpZ_q (fun K hK => ?_); go_simp; refine hK _ ?_; clear hK K)
      (refine wpZ_q (fun K hK => ?_); go_simp; refine hK _ ?_; clear hK K)
      refine wpZ_nil ?_
      go_wp2_with fail
      go_ret
      exact ⟨rfl, HE8.out.trans (E16.out.trans (by repeat (first | exact Ext.refl _ | refine Ext.alloc ?_ _ | assumption | refine Ext.over ?_ _ | refine Ext.drew ?_ | refine Ext.drewN ?_ _)))⟩
    · have hs0 : ((sl : Int) == 0) = false := by rw [beq_eq_false_iff_ne]; intro e; exact hg0 (hsn.2 (by omega))
      clear hsn
      (refine wpZ_q (fun K hK => ?_); go_simp; refine hK _ ?_; clear hK K)
      (refine wpZ_q (fun K hK => ?_); go_simp; refine hK _ ?_; clear hK K)
      refine wpZ_u ?_
      refine stepH_of (fun K hK => ?_)
      go_simp
      refine (HPV.out w9 (E9.out)).mono ?_
      rintro _ w10 ⟨rfl, e10⟩
      refine ⟨_, rfl, hK _ _ (ext_below e10 Z9.out.size) ?_⟩; clear hK K
      have E10 := hid (E9.out.trans e10)
      have Z10 := hid (Z9.out.trans e10)
      clear e10 E9 Z9
      (refine wpZ_q (fun K hK => ?_); go_simp; refine hK _ ?_; clear hK K)
      (refine wpZ_q (fun K hK => ?_); go_simp; refine hK _ ?_; clear hK K)
      (refine wpZ_q (fun K hK => ?_); go_simp; refine hK _ ?_; clear hK K)
      (refine wpZ_q (fun K hK => ?_); go_simp; refine hK _ ?_; clear hK K)
      refine wpZ_u ?_
      refine stepH_of (fun K hK => ?_)
      go_simp
      refine (HWV.out w10 (E10.out) _ _ _ (.inr ⟨rfl, rfl, rfl⟩)).mono ?_
      rintro _ w11 ⟨rfl, e11⟩
      refine ⟨_, rfl, hK _ _ (ext_below e11 Z10.out.size) ?_⟩; clear hK K
      have E11 := hid (E10.out.trans e11)
      have Z11 := hid (Z10.out.trans e11)
      clear e11 E10 Z10
      (refine wpZ_q (fun K hK => ?_); go_simp; refine hK _ ?_; clear hK K)
      (refine wpZ_q (fun K hK => ?_); go_simp; refine hK _ ?_; clear hK K)
      (refine wpZ_q (fun K hK => ?_); go_simp; refine hK _ ?_; clear hK K)
      (refine wpZ_q (fun K hK => ?_); go_simp; refine hK _ ?_; clear hK K)
      (refine wpZ_q (fun K hK => ?_); go_simp; refine hK _ ?_; clear hK K)
      (refine wpZ_q (fun K hK => ?_); go_simp; refine hK _ ?_; clear hK K)
      (refine wpZ_q (fun K hK => ?_); go_simp; refine hK _ ?_; clear hK K)
      refine wpZ_u ?_
      refine stepH_of (fun K hK => ?_)
      go_simp
      refine (HGV.out w11 (E11.out) _ _ _ (.inr ⟨rfl, rfl, rfl⟩)).mono ?_
      rintro _ w12 ⟨rfl, e12⟩
      refine ⟨_, rfl, hK _ _ (ext_below e12 Z11.out.size) ?_⟩; clear hK K
      have E12 := hid (E11.out.trans e12)
      have Z12 := hid (Z11.out.trans e12)
      clear e12 E11 Z11
      (refine wpZ_q (fun K hK => ?_); go_simp; refine hK _ ?_; clear hK K)
      (refine wpZ_q (fun K hK => ?_); go_simp; refine hK _ ?_; clear hK K)
      (refine wpZ_q (fun K hK => ?_); go_simp; refine hK _ ?_; clear hK K)
      (refine wpZ_q (fun K hK => ?_); go_simp; refine hK _ ?_; clear hK K)
      (refine wpZ_q (fun K hK => ?_); go_simp; refine hK _ ?_; clear hK K)
      (refine wpZ_q (fun K hK => ?_); go_simp; refine hK _ ?_; clear hK K)
      (refine wpZ_q (fun K hK => ?_); go_simp; refine hK _ ?_; clear hK K)
      refine wpZ_u ?_
      refine stepH_of (fun K hK => ?_)
      go_simp
      refine (HW2.out w12 (E12.out)).mono ?_
      rintro _ w13 ⟨rfl, e13⟩
      refine ⟨_, rfl, hK _ _ (ext_below e13 Z12.out.size) ?_⟩; clear hK K
      have E13 := hid (E12.out.trans e13)
      have Z13 := hid (Z12.out.trans e13)
      clear e13 E12 Z12
      (refine wpZ_q (fun K hK => ?_); go_simp; refine hK _ ?_; clear hK K)
      (refine wpZ_q (fun K hK => ?_); go_simp; refine hK _ ?_; clear hK K)
      (refine wpZ_q (fun K hK => ?_); go_simp; refine hK _ ?_; clear hK K)
      (refine wpZ_q (fun K hK => ?_); go_simp; refine hK _ ?_; clear hK K)
      (refine wpZ_q (fun K hK => ?_); go_simp; refine hK _ ?_; clear hK K)
      (refine wpZ_q (fun K hK => ?_); go_simp; refine hK _ ?_; clear hK K)
      (refine wpZ_skip (by kernel_rfl) (fun K hK => ?_); go_simp; refine hK _ ?_; clear hK K)
      (refine wpZ_skip (by kernel_rfl) (fun K hK => ?_); go_simp; refine hK _ ?_; clear hK K)
      (refine wpZ_skip (by kernel_rfl) (fun K hK => ?_); go_simp; refine hK _ ?_; clear hK K)
      (refine wpZ_skip (by kernel_rfl) (fun K hK => ?_); go_simp; refine hK _ ?_; clear hK K)
      (refine wpZ_skip (by kernel_rfl) (fun K hK => ?_); go_simp; refine hK _ ?_; clear hK K)
      (refine wpZ_skip (by kernel_rfl) (fun K hK => ?_); go_simp; refine hK _ ?_; clear hK K)
      (refine wpZ_skip (by kernel_rfl) (fun K hK => ?_); go_simp; refine hK _ ?_; clear hK K)
      (refine wpZ_skip (by kernel_rfl) (fun K hK => ?_); go_simp; refine hK _ ?_; clear hK K)
      (refine wpZ_skip (by kernel_rfl) (fun K hK => ?_); go_simp; refine hK _ ?_; clear hK K)
      (refine wpZ_skip (by kernel_rfl) (fun K hK => ?_); go_simp; refine hK _ ?_; clear hK K)
      (refine wpZ_skip (by kernel_rfl) (fun K hK => ?_); go_simp; refine hK _ ?_; clear hK K)
      (refine wpZ_skip (by kernel_rfl) (fun K hK => ?_); go_simp; refine hK _ ?_; clear hK K)
      (refine wpZ_q (fun K hK => ?_); go_simp; refine hK _ ?_; clear hK K)
      (refine wpZ_q (fun K hK => ?_); go_simp; refine hK _ ?_; clear hK K)
      (refine wpZ_q (fun K hK => ?_); go_simp; refine hK _ ?_; clear hK K)
      (refine wpZ_q (fun K hK => ?_); go_simp; refine hK _ ?_; clear hK K)
      (refine wpZ_q (fun K hK => ?_); go_simp; refine hK _ ?_; clear hK K)
      (refine wpZ_q (fun K hK => ?_); go_simp; refine hK _ ?_; clear hK K)
      (refine wpZ_q (fun K hK => ?_); go_simp; refine hK _ ?_; clear hK K)
      (refine wpZ_q (fun K hK => ?_); go_simp; refine hK _ ?_; clear hK K)
      refine wpZ_u ?_
      refine stepH_of (fun K hK => ?_)
      go_simp
      refine (HSV.out w13 E13.out).mono ?_
      rintro _ w14 ⟨AS, cS, rfl, e14⟩
      refine ⟨_, rfl, hK _ _ (ext_below e14 Z13.out.size) ?_⟩; clear hK K
      have E14 := hid (E13.out.trans e14)
      have Z14 := hid (Z13.out.trans e14)
      clear e14 E13 Z13
      (refine wpZ_q (fun K hK => ?_); go_simp; refine hK _ ?_; clear hK K)
      (refine wpZ_q (fun K hK => ?_); go_simp; refine hK _ ?_; clear hK K)
      (refine wpZ_q (fun K hK => ?_); go_simp; refine hK _ ?_; clear hK K)
      (refine wpZ_q (fun K hK => ?_); go_simp; refine hK _ ?_; clear hK K)
      (refine wpZ_q (fun K hK => ?_); go_simp; refine hK _ ?_; clear hK K)
      (refine wpZ_q (fun K hK => ?_); go_simp; refine hK _ ?_; clear hK K)
      (refine wpZ_q (fun K hK => ?_); go_simp; refine hK _ ?_; clear hK K)
      (refine wpZ_q (fun K hK => ?_); go_simp; refine hK _ ?_; clear hK K)
      (refine wpZ_q (fun K hK => ?_); go_simp; refine hK _ ?_; clear hK K)
      refine wpZ_u ?_
      refine stepH_of (fun K hK => ?_)
      go_simp
      refine (HW2.out w14 (E14.out)).mono ?_
      rintro _ w15 ⟨rfl, e15⟩
      refine ⟨_, rfl, hK _ _ (ext_below e15 Z14.out.size) ?_⟩; clear hK K
      have E15 := hid (E14.out.trans e15)
      have Z15 := hid (Z14.out.trans e15)
      clear e15 E14 Z14
      refine wpZ_u ?_
      refine stepH_of (fun K hK => ?_)
      go_simp
      refine (HS2.out w15 (E15.out)).mono ?_
      rintro _ w16 ⟨rfl, e16⟩
      refine ⟨_, rfl, hK _ _ (ext_below e16 Z15.out.size) ?_⟩; clear hK K
      have E16 := hid (E15.out.trans e16)
      have Z16 := hid (Z15.out.trans e16)
      clear e16 E15 Z15
      (refine wpZ_q (fun K hK => ?_); go_simp; refine hK _ ?_; clear hK K)
      (refine wpZ_q (fun K hK => ?_); go_simp; refine hK _ ?_; clear hK K)
      (refine wpZ_q (fun K hK => ?_); go_simp; refine hK _ ?_; clear hK K)
      refine wpZ_nil ?_
      go_wp2_with fail
      go_ret
      exact ⟨rfl, HE8.out.trans (E16.out.trans (by repeat (first | exact Ext.refl _ | refine Ext.alloc ?_ _ | assumption | refine Ext.over ?_ _ | refine Ext.drew ?_ | refine Ext.drewN ?_ _)))⟩
  · obtain ⟨hg1, hg2, hg3⟩ := hg.resolve_left hw0
    have hwt : watchR L P = true := by rw [HWP.out]; exact decide_eq_true (by omega)
    have HW2 := hid (HWB.out true hwt)
    have HS2 := hid (HAB2.out true (by rw [HWA.out]; exact hwt))
    have hg0 : ¬ gv < 0 := by omega
    have hw1 : 0 < wv := by omega
    have hs0 : ((sl : Int) == 0) = false := by rw [beq_eq_false_iff_ne]; intro e; exact hg0 (hsn.2 (by omega))
    clear hwt hg hsn
    (refine wpZ_q (fun K hK => ?_); go_simp; refine hK _ ?_; clear hK K)
    (refine wpZ_q (fun K hK => ?_); go_simp; refine hK _ ?_; clear hK K)
    refine wpZ_u ?_
    refine stepH_of (fun K hK => ?_)
    go_simp
    refine (HPV.out w9 (E9.out)).mono ?_
    rintro _ w10 ⟨rfl, e10⟩
    refine ⟨_, rfl, hK _ _ (ext_below e10 Z9.out.size) ?_⟩; clear hK K
    have E10 := hid (E9.out.trans e10)
    have Z10 := hid (Z9.out.trans e10)
    clear e10 E9 Z9
    (refine wpZ_q (fun K hK => ?_); go_simp; refine hK _ ?_; clear hK K)
    (refine wpZ_q (fun K hK => ?_); go_simp; refine hK _ ?_; clear hK K)
    (refine wpZ_q (fun K hK => ?_); go_simp; refine hK _ ?_; clear hK K)
    (refine wpZ_q (fun K hK => ?_); go_simp; refine hK _ ?_; clear hK K)
    refine wpZ_u ?_
    refine stepH_of (fun K hK => ?_)
    go_simp
    refine (HWV.out w10 (E10.out) _ _ _ (.inr ⟨rfl, rfl, rfl⟩)).mono ?_
    rintro _ w11 ⟨rfl, e11⟩
    refine ⟨_, rfl, hK _ _ (ext_below e11 Z10.out.size) ?_⟩; clear hK K
    have E11 := hid (E10.out.trans e11)
    have Z11 := hid (Z10.out.trans e11)
    clear e11 E10 Z10
    (refine wpZ_q (fun K hK => ?_); go_simp; refine hK _ ?_; clear hK K)
    (refine wpZ_q (fun K hK => ?_); go_simp; refine hK _ ?_; clear hK K)
    (refine wpZ_q (fun K hK => ?_); go_simp; refine hK _ ?_; clear hK K)
    (refine wpZ_q (fun K hK => ?_); go_simp; refine hK _ ?_; clear hK K)
    (refine wpZ_q (fun K hK => ?_); go_simp; refine hK _ ?_; clear hK K)
    (refine wpZ_q (fun K hK => ?_); go_simp; refine hK _ ?_; clear hK K)
    (refine wpZ_q (fun K hK => ?_); go_simp; refine hK _ ?_; clear hK K)
    refine wpZ_u ?_
    refine stepH_of (fun K hK => ?_)
    go_simp
    refine (HGV.out w11 (E11.out) _ _ _ (.inr ⟨rfl, rfl, rfl⟩)).mono ?_
    rintro _ w12 ⟨rfl, e12⟩
    refine ⟨_, rfl, hK _ _ (ext_below e12 Z11.out.size) ?_⟩; clear hK K
    have E12 := hid (E11.out.trans e12)
    have Z12 := hid (Z11.out.trans e12)
    clear e12 E11 Z11
    (refine wpZ_q (fun K hK => ?_); go_simp; refine hK _ ?_; clear hK K)
    (refine wpZ_q (fun K hK => ?_); go_simp; refine hK _ ?_; clear hK K)
    (refine wpZ_q (fun K hK => ?_); go_simp; refine hK _ ?_; clear hK K)
    (refine wpZ_q (fun K hK => ?_); go_simp; refine hK _ ?_; clear hK K)
    (refine wpZ_q (fun K hK => ?_); go_simp; refine hK _ ?_; clear hK K)
    (refine wpZ_q (fun K hK => ?_); go_simp; refine hK _ ?_; clear hK K)
    (refine wpZ_q (fun K hK => ?_); go_simp; refine hK _ ?_; clear hK K)
    refine wpZ_u ?_
    refine stepH_of (fun K hK => ?_)
    go_simp
    refine (HW2.out w12 (E12.out)).mono ?_
    rintro _ w13 ⟨rfl, e13⟩
    refine ⟨_, rfl, hK _ _ (ext_below e13 Z12.out.size) ?_⟩; clear hK K
    have E13 := hid (E12.out.trans e13)
    have Z13 := hid (Z12.out.trans e13)
    clear e13 E12 Z12
    (refine wpZ_q (fun K hK => ?_); go_simp; refine hK _ ?_; clear hK K)
    (refine wpZ_q (fun K hK => ?_); go_simp; refine hK _ ?_; clear hK K)
    (refine wpZ_q (fun K hK => ?_); go_simp; refine hK _ ?_; clear hK K)
    (refine wpZ_q (fun K hK => ?_); go_simp; refine hK _ ?_; clear hK K)
    (refine wpZ_q (fun K hK => ?_); go_simp; refine hK _ ?_; clear hK K)
    (refine wpZ_q (fun K hK => ?_); go_simp; refine hK _ ?_; clear hK K)
    (refine wpZ_q (fun K hK => ?_); go_simp; refine hK _ ?_; clear hK K)
    (refine wpZ_q (fun K hK => ?_); go_simp; refine hK _ ?_; clear hK K)
    (refine wpZ_q (fun K hK => ?_); go_simp; refine hK _ ?_; clear hK K)
    (refine wpZ_q (fun K hK => ?_); go_simp; refine hK _ ?_; clear hK K)
    (refine wpZ_q (fun K hK => ?_); go_simp; refine hK _ ?_; clear hK K)
    (refine wpZ_q (fun K hK => ?_); go_simp; refine hK _ ?_; clear hK K)
    (refine wpZ_q (fun K hK => ?_); go_simp; refine hK _ ?_; clear hK K)
    (refine wpZ_q (fun K hK => ?_); go_simp; refine hK _ ?_; clear hK K)
    (refine wpZ_q (fun K hK => ?_); go_simp; refine hK _ ?_; clear hK K)
    (refine wpZ_q (fun K hK => ?_); go_simp; refine hK _ ?_; clear hK K)
    (refine wpZ_q (fun K hK => ?_); go_simp; refine hK _ ?_; clear hK K)
    (refine wpZ_q (fun K hK => ?_); go_simp; refine hK _ ?_; clear hK K)
    (refine wpZ_q (fun K hK => ?_); go_simp; refine hK _ ?_; clear hK K)
    (refine wpZ_q (fun K hK => ?_); go_simp; refine hK _ ?_; clear hK K)
    (refine wpZ_q (fun K hK => ?_); go_simp; refine hK _ ?_; clear hK K)
    (refine wpZ_q (fun K hK => ?_); go_simp; refine hK _ ?_; clear hK K)
    (refine wpZ_q (fun K hK => ?_); go_simp; refine hK _ ?_; clear hK K)
    (refine wpZ_q (fun K hK => ?_); go_simp; refine hK _ ?_; clear hK K)
    (refine wpZ_q (fun K hK => ?_); go_simp; refine hK _ ?_; clear hK K)
    (refine wpZ_q (fun K hK => ?_); go_simp; refine hK _ ?_; clear hK K)
    refine wpZ_u ?_
    refine stepH_of (fun K hK => ?_)
    go_simp
    refine (HSV.out w13 E13.out).mono ?_
    rintro _ w14 ⟨AS, cS, rfl, e14⟩
    refine ⟨_, rfl, hK _ _ (ext_below e14 Z13.out.size) ?_⟩; clear hK K
    have E14 := hid (E13.out.trans e14)
    have Z14 := hid (Z13.out.trans e14)
    clear e14 E13 Z13
    (refine wpZ_q (fun K hK => ?_); go_simp; refine hK _ ?_; clear hK K)
    (refine wpZ_q (fun K hK => ?_); go_simp; refine hK _ ?_; clear hK K)
    (refine wpZ_q (fun K hK => ?_); go_simp; refine hK _ ?_; clear hK K)
    (refine wpZ_q (fun K hK => ?_); go_simp; refine hK _ ?_; clear hK K)
    (refine wpZ_q (fun K hK => ?_); go_simp; refine hK _ ?_; clear hK K)
    (refine wpZ_q (fun K hK => ?_); go_simp; refine hK _ ?_; clear hK K)
    (refine wpZ_q (fun K hK => ?_); go_simp; refine hK _ ?_; clear hK K)
    (refine wpZ_q (fun K hK => ?_); go_simp; refine hK _ ?_; clear hK K)
    (refine wpZ_q (fun K hK => ?_); go_simp; refine hK _ ?_; clear hK K)
    refine wpZ_u ?_
    refine stepH_of (fun K hK => ?_)
    go_simp
    refine (HW2.out w14 (E14.out)).mono ?_
    rintro _ w15 ⟨rfl, e15⟩
    refine ⟨_, rfl, hK _ _ (ext_below e15 Z14.out.size) ?_⟩; clear hK K
    have E15 := hid (E14.out.trans e15)
    have Z15 := hid (Z14.out.trans e15)
    clear e15 E14 Z14
    refine wpZ_u ?_
    refine stepH_of (fun K hK => ?_)
    go_simp
    refine (HS2.out w15 (E15.out)).mono ?_
    rintro _ w16 ⟨rfl, e16⟩
    refine ⟨_, rfl, hK _ _ (ext_below e16 Z15.out.size) ?_⟩; clear hK K
    have E16 := hid (E15.out.trans e16)
    have Z16 := hid (Z15.out.trans e16)
    clear e16 E15 Z15
    (refine wpZ_q (fun K hK => ?_); go_simp; refine hK _ ?_; clear hK K)
    (refine wpZ_q (fun K hK => ?_); go_simp; refine hK _ ?_; clear hK K)
    (refine wpZ_q (fun K hK => ?_); go_simp; refine hK _ ?_; clear hK K)
    refine wpZ_nil ?_
    go_wp2_with fail
    go_ret
    exact ⟨rfl, HE8.out.trans (E16.out.trans (by repeat (first | exact Ext.refl _ | refine Ext.alloc ?_ _ | assumption | refine Ext.over ?_ _ | refine Ext.drew ?_ | refine Ext.drewN ?_ _)))⟩
end fnPatrols
end Go.Proofs.Ytkifapcegiajiaa
