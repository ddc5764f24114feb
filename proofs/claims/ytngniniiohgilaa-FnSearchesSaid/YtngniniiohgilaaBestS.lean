/- Walks: BestOrder. Conditions: sizes. -/
import Derived.Test.YtngniniiohgilaaSets
import Derived.Test.YtngniniiohgilaaFewestJ
namespace Go.Proofs.Ytngniniiohgilaa
open Go.RowKit
set_option linter.unusedVariables false

def bestOrder (h : Int) (l : List T2) : List Int := if houseOk h l = true then ci (bst l h.toNat h.toNat []).1 else []
theorem bestOrder_no {h : Int} {l : List T2} (g : houseOk h l = false) : bestOrder h l = [] := by unfold bestOrder; rw [g]; simp
theorem bestOrder_yes {h : Int} {l : List T2} (g : houseOk h l = true) : bestOrder h l = ci (bst l h.toNat h.toNat []).1 := by unfold bestOrder; rw [if_pos g]
theorem bestOrder_len (h : Int) (l : List T2) : (bestOrder h l).length ≤ 7 := by
  unfold bestOrder
  split
  · rename_i g
    obtain ⟨_, _, h7, _⟩ := houseOk_bounds g
    have := bst_ord l h.toNat h.toNat [] ⟨List.nodup_nil, by simp⟩ (by simp)
    rw [ci_len]
    omega
  · simp
set_option maxRecDepth 100000 in
set_option maxHeartbeats 1600000 in
theorem iBest_any (h : Int) (A : Option Addr) (n c : Nat) (l : List T2) (w : World) (hl : Row w A (l.flatMap T2.v)) (hn : l.length = n) (hx : n ≤ 1048577) :
    Calls Try.prog 18 #[.agg #[.int .i64 h, .slice A n c]] w fun en w' => ∃ A' m' c', en = .returned (.slice A' m' c') ∧ w'.ownsRow w.heap.size 3 1 (.slice A' m' c') m' ((bestOrder h l).map (Value.int .i64)) ∧ Ext w w' := by
  subst hn
  cases hk : houseOk h l
  · have HB := hid (bestOrder_no hk)
    go_enter Try.func18, Try.ntmps18
    go_wp2_with (go_at_call 15; refine (gives_b hk (iHouseOk_any _ _ _ _ l _ (hl.ext (by repeat (first | exact Ext.refl _ | refine Ext.alloc ?_ _ | assumption | refine Ext.over ?_ _ | refine Ext.drew ?_ | refine Ext.drewN ?_ _))) rfl hx)).over.mono ?_; rintro e w' ⟨rfl, xw, rfl⟩)
    go_ret
    rw [HB.out]
    exact ⟨_, _, _, rfl, World.ownsRow_nil _ _ _ _, by repeat (first | exact Ext.refl _ | refine Ext.alloc ?_ _ | assumption | refine Ext.over ?_ _ | refine Ext.drew ?_ | refine Ext.drewN ?_ _)⟩
  have HB := hid (bestOrder_yes hk)
  obtain ⟨hd, h1, h7, h12⟩ := houseOk_bounds hk
  have HD := hid hd
  clear hd
  obtain ⟨h, rfl⟩ : ∃ k : Nat, h = k := ⟨h.toNat, by omega⟩
  go_enter Try.func18, Try.ntmps18
  go_wp2_with (go_at_call 15; refine (gives_b hk (iHouseOk_any _ _ _ _ l _ (hl.ext (by repeat (first | exact Ext.refl _ | refine Ext.alloc ?_ _ | assumption | refine Ext.over ?_ _ | refine Ext.drew ?_ | refine Ext.drewN ?_ _))) rfl hx)).over.mono ?_; rintro e w' ⟨rfl, xw, rfl⟩)
  refine (best_any h A c l h12 (by omega) (by omega) HD.out h [] none 0 0 _ (hl.ext (by repeat (first | exact Ext.refl _ | refine Ext.alloc ?_ _ | assumption | refine Ext.over ?_ _ | refine Ext.drew ?_ | refine Ext.drewN ?_ _))) (Row.nil _ _) rfl ⟨List.nodup_nil, by simp⟩ (by omega) (fun _ => ⟨rfl, rfl⟩) (by omega)).mono ?_
  rintro _ w2 ⟨g, c', rfl, ho, he⟩
  have E2 := hid (Ext.trans (show Ext w _ by repeat (first | exact Ext.refl _ | refine Ext.alloc ?_ _ | assumption | refine Ext.over ?_ _ | refine Ext.drew ?_ | refine Ext.drewN ?_ _)) he)
  have HO := hid (own_base (base' := w.heap.size) ho (show Ext w _ by repeat (first | exact Ext.refl _ | refine Ext.alloc ?_ _ | assumption | refine Ext.over ?_ _ | refine Ext.drew ?_ | refine Ext.drewN ?_ _)).size)
  clear ho he
  go_wp2_with fail
  go_ret
  rw [HB.out, Int.toNat_natCast]
  exact ⟨_, _, _, rfl, HO.out, E2.out⟩
set_option maxRecDepth 100000 in
set_option maxHeartbeats 6400000 in
theorem sBest_any (h : Int) (A : Option Addr) (n c : Nat) (l : List T2) (w : World) (hl : Row w A (l.flatMap T2.v)) (hn : l.length = n) (hx : n ≤ 1048577) :
    Calls Try.prog 32 #[.agg #[.int .i64 h, .slice A n c]] w fun en w' => ∃ A' m' c', en = .returned (.slice A' m' c') ∧ w'.ownsRow w.heap.size 3 1 (.slice A' m' c') m' ((bestOrder h l).map (Value.int .i64)) ∧ Ext w w' := by
  subst hn
  cases hk : houseOk h l
  · have HB := hid (bestOrder_no hk)
    have HO := hid (own_empty (w.alloc (.cells #[.int .i64 h, .slice A l.length c] 26)) (w.heap.size + 1) w.heap.size (by simp) (by simp) 3 1)
    go_enter Try.func32, Try.ntmps32
    go_wp2_with (go_at_call 64; refine (gives_b hk (sHouseOk_any _ _ _ _ l _ (hl.ext (by repeat (first | exact Ext.refl _ | refine Ext.alloc ?_ _ | assumption | refine Ext.over ?_ _ | refine Ext.drew ?_ | refine Ext.drewN ?_ _))) rfl hx)).over.mono ?_; rintro e w' ⟨rfl, xw, rfl⟩)
    go_ret
    rw [HB.out]
    exact ⟨_, _, _, rfl, own_ext HO.out (by repeat (first | exact Ext.refl _ | refine Ext.alloc ?_ _ | assumption | refine Ext.over ?_ _ | refine Ext.drew ?_ | refine Ext.drewN ?_ _)), by repeat (first | exact Ext.refl _ | refine Ext.alloc ?_ _ | assumption | refine Ext.over ?_ _ | refine Ext.drew ?_ | refine Ext.drewN ?_ _)⟩
  have HB := hid (bestOrder_yes hk)
  obtain ⟨hd, h1, h7, h12⟩ := houseOk_bounds hk
  clear hd
  obtain ⟨h, rfl⟩ : ∃ k : Nat, h = k := ⟨h.toNat, by omega⟩
  obtain ⟨hp, hp'⟩ := pow_small (show h ≤ 8 by omega)
  have hp7 : 2 ^ h ≤ 128 := Nat.pow_le_pow_right (by omega) (show h ≤ 7 by omega)
  obtain ⟨N, hN⟩ : ∃ N, N = 2 ^ h := ⟨_, rfl⟩
  have HN := hid hN
  rw [← hN] at hp7
  clear hN hp hp'
  obtain ⟨wb, hwb⟩ : ∃ wb, wb = (w.alloc (.cells #[.int .i64 ↑h, .slice A l.length c] 26)).alloc (.cells #[] 3) := ⟨_, rfl⟩
  have hew : Ext w wb := by rw [hwb]; repeat (first | exact Ext.refl _ | refine Ext.alloc ?_ _ | assumption | refine Ext.over ?_ _ | refine Ext.drew ?_ | refine Ext.drewN ?_ _)
  have hsz := hid (show wb.heap.size = w.heap.size + 2 by rw [hwb]; simp)
  have hb0 : wb.cell? ⟨w.heap.size, 0, none⟩ = some (.int .i64 ↑h) := by rw [hwb]; go_simp
  have hb1 : wb.cell? ⟨w.heap.size, 1, none⟩ = some (.slice A l.length c) := by rw [hwb]; go_simp
  have HO0 := hid (show wb.ownsRow w.heap.size 3 1 (.slice (some ⟨w.heap.size + 1, 0, none⟩) 0 0) 0 [] by rw [hwb]; exact own_empty _ _ _ (by simp) (by simp) _ _)
  have HK := hid hk
  go_enter Try.func32, Try.ntmps32
  go_wp2_with (go_at_call 64; refine (gives_b HK.out (sHouseOk_any _ _ _ _ l _ (hl.ext (by repeat (first | exact Ext.refl _ | refine Ext.alloc ?_ _ | assumption | refine Ext.over ?_ _ | refine Ext.drew ?_ | refine Ext.drewN ?_ _))) rfl hx)).over.mono ?_; rintro e w' ⟨rfl, xw, rfl⟩)
  refine (l24Best_any h A l.length c l _ (hl.ext (by repeat (first | exact Ext.refl _ | refine Ext.alloc ?_ _ | assumption | refine Ext.over ?_ _ | refine Ext.drew ?_ | refine Ext.drewN ?_ _))) rfl h12 (by omega) (by omega)).mono ?_
  rintro _ w1 ⟨gt, v, cs, rfl, ho, ht, he⟩
  have E1 := hid (show Ext wb w1 by rw [hwb]; exact Ext.trans (by repeat (first | exact Ext.refl _ | refine Ext.alloc ?_ _ | assumption | refine Ext.over ?_ _ | refine Ext.drew ?_ | refine Ext.drewN ?_ _)) he)
  have HT := hid ht
  have hgl := ho.lt gt rfl
  have hg2 : w.heap.size + 2 ≤ gt := Nat.le_trans (by rw [← hsz.out, hwb]; exact (show Ext _ _ by repeat (first | exact Ext.refl _ | refine Ext.alloc ?_ _ | assumption | refine Ext.over ?_ _ | refine Ext.drew ?_ | refine Ext.drewN ?_ _)).size) hgl.1
  have hg3 : gt < w1.heap.size := hgl.2
  have hs1 : w.heap.size + 2 ≤ w1.heap.size := by omega
  have HC := hid (show ∀ T, T < N → w1.cell? ⟨gt, T, none⟩ = some (.int .i64 (v T)) from fun T hT => by
    rw [ho.cellAt T (by rw [← HN.out]; omega)]; exact ht.1 T (by omega) (by rw [← HN.out]; exact hT))
  have HO1 := hid (own_ext HO0.out E1.out)
  have HV := hid ht.rec
  have hvb := fun T => ht.2.2.2 T
  have HVB := hid hvb
  rw [← HN.out]
  clear ho ht he hgl hwb hk hvb
  go_wp2_with fail
  go_loopw [3, 5] (fun ov sv wr => ∃ (b : List Nat) (A' : Option Addr) (c' : Nat), Beg h b ∧ b.length ≤ h ∧ bst l h (h - b.length) b = bst l h h [] ∧ ov = .slice A' b.length c' ∧ sv = .int .i64 (setN b) ∧ wr.ownsRow w.heap.size 3 1 (.slice A' b.length c') b.length ((ci b).map (Value.int .i64)) ∧ OutAt w1 wr (w.heap.size + 1) A') (fun ov _ _ => h - lenV ov)
  case atStart => exact ⟨[], _, _, ⟨List.nodup_nil, by simp⟩, by simp, rfl, rfl, rfl, HO1.out, OutAt.refl _ _⟩
  case round =>
    rename World => wo
    obtain ⟨b, A', c', hbeg, hbl, hbst, rfl, rfl, hown, hout⟩ := hrel
    have HBG := hid hbeg
    have HBS := hid hbst
    have HO := hid hown
    have HOT := hid hout
    have HEX := hid (hout.out (hew.trans E1.out) (by omega))
    have b0 : wo.cell? ⟨w.heap.size, 0, none⟩ = some (.int .i64 ↑h) := (hout.cell (p := ⟨w.heap.size, 0, none⟩) (by show w.heap.size < _; omega) (by show w.heap.size ≠ _; omega)).trans (old_cell E1.out hb0)
    have b1 : wo.cell? ⟨w.heap.size, 1, none⟩ = some (.slice A l.length c) := (hout.cell (p := ⟨w.heap.size, 1, none⟩) (by show w.heap.size < _; omega) (by show w.heap.size ≠ _; omega)).trans (old_cell E1.out hb1)
    have HCO := hid (show ∀ T, T < N → wo.cell? ⟨gt, T, none⟩ = some (.int .i64 (v T)) from fun T hT => (hout.cell (p := ⟨gt, T, none⟩) (by exact hg3) (by show gt ≠ _; omega)).trans (HC.out T hT))
    have HL := hid (hl.ext HEX.out)
    clear hbeg hbst hown hout
    by_cases hlt : b.length < h
    · obtain ⟨r, hr⟩ : ∃ r, h - b.length = r + 1 := ⟨h - b.length - 1, by omega⟩
      have hnx := bst_next (l := l) (v := v) (by omega) HV.out (r := r) HBG.out (by omega) (by rw [← hr]; exact HBS.out)
      obtain ⟨j, hj, hjc, hjm, hjn, hjb⟩ := hnx
      have HJN := hid hjn
      have HJB := hid hjb
      have HRR := hid (show h - (b ++ [j]).length = r by simp; omega)
      have HRM := hid (show h - (b.length + 1) < h - b.length by omega)
      have hSN := setN_lt HBG.out
      have HTB := hid (setN_test (b := b))
      have HSN := hid (setN_snoc b j)
      have hbo := bord_bound l h (setN b)
      obtain ⟨S, hS⟩ : ∃ S, S = setN b := ⟨_, rfl⟩
      rw [← hS, ← HN.out] at hSN
      rw [← hS] at hjm HJN HTB HSN hbo ⊢
      have hS128 : S < 128 := by omega
      have HSS := hid hS
      obtain ⟨bo, hbd⟩ : ∃ bo, bo = bord l h S := ⟨_, rfl⟩
      rw [← hbd] at hjm HJN hbo
      have HBD := hid hbd.symm
      obtain ⟨v0, hv0⟩ : ∃ v0, v0 = v 0 := ⟨_, rfl⟩
      rw [← hv0] at hjm HJN
      have HV0 := hid hv0
      have HJM := hid hjm
      have hw1 : IntKind.i64.wrap (bo + 1) = bo + 1 := IntWalk.i64_in _ ⟨by omega, by omega⟩
      clear hjn hjb hS hbd hv0 hjm hr
      go_wp2_with fail
      go_loopw [3, 5, 6] (fun ov sv kv wr => ∃ k : Nat, k ≤ j ∧ kv = .int .i64 ↑k ∧ ov = .slice A' b.length c' ∧ sv = .int .i64 (S : Nat) ∧ Ext wo wr) (fun _ _ kv _ => j - (intOf kv).toNat)
      case atStart => exact ⟨0, by omega, rfl, rfl, rfl, Ext.refl _⟩
      case round =>
        obtain ⟨k, hk, rfl, rfl, rfl, he⟩ := hrel
        have HE := hid he
        have p0 := old_cell he b0
        have p1 := old_cell he b1
        have HLW := hid (HL.out.ext he)
        have HCW := hid (show ∀ T, T < N → wr.cell? ⟨gt, T, none⟩ = some (.int .i64 (v T)) from fun T hT => old_cell he (HCO.out T hT))
        have HOW := hid (own_ext HO.out he)
        have HTW := hid (HOT.out.ext he)
        have hkh : k < h := by omega
        clear he b0 b1
        cases hb : S.testBit k
        rotate_left
        · obtain ⟨e0, e1⟩ := bit_yes (k := k) (show S < 256 by omega) hb
          have hkj : k < j := by
            rcases Nat.lt_or_ge k j with h5 | h5
            · exact h5
            · obtain rfl : k = j := by omega
              rw [HTB.out, hjc] at hb
              cases hb
          go_wp2_with fail
          (refine wp_region_calm (by kernel_rfl) (by kernel_rfl) ?_; (repeat (go_big_quiet_step (fail))); refine wpQuiet_nil ?_; rintro w1 ⟨x1, rfl⟩)
          go_wp2_with fail
          go_roundw
          case rel => exact ⟨k + 1, by omega, by go_num, rfl, rfl, HE.out.trans (by repeat (first | exact Ext.refl _ | refine Ext.alloc ?_ _ | assumption | refine Ext.over ?_ _ | refine Ext.drew ?_ | refine Ext.drewN ?_ _))⟩
          case measure => simp [intOf]; omega
        · obtain ⟨e0, e1⟩ := bit_no (k := k) (show S < 256 by omega) hb
          obtain ⟨hor, hor'⟩ := or_bit hS128 (show k < 7 by omega)
          obtain ⟨Q, hQ⟩ : ∃ Q, Q = S ||| 2 ^ k := ⟨_, rfl⟩
          have hQN : Q < N := by
            rw [hQ, HN.out]
            exact Nat.or_lt_two_pow (by rw [← HN.out]; exact hSN) (Nat.pow_lt_pow_right (by omega) hkh)
          rw [← hQ] at hor hor'
          have hor2 : bits .or .i64 (S : Int) (IntKind.i64.wrap (2 ^ k)) = (Q : Int) := by rw [IntWalk.i64_left]; exact hor
          have HQ := hid hQ
          have hvq := HVB.out Q
          obtain ⟨y, hy1⟩ : ∃ y, y = v Q := ⟨_, rfl⟩
          rw [← hy1] at hvq
          have c2 : wr.cell? ⟨gt, Q, none⟩ = some (.int .i64 y) := by rw [hy1]; exact HCW.out Q hQN
          have c0 : wr.cell? ⟨gt, 0, none⟩ = some (.int .i64 v0) := by rw [HV0.out]; exact HCW.out 0 (by omega)
          have HY := hid hy1
          clear hQ hy1
          rcases Nat.lt_or_ge k j with hkj | hkj
          · have htest : decide ((if bo + 1 < y then y else bo + 1) ≤ v0) = false := by
              have h5 := HJN.out k hkj (by rw [← HTB.out]; exact hb)
              rw [← HQ.out, ← HY.out] at h5
              rw [decide_eq_false_iff_not]
              split <;> omega
            go_wp2_with fail
            (refine wp_region_calm (by kernel_rfl) (by kernel_rfl) ?_; (repeat (go_big_quiet_step ((go_at_call 67; exact (gives_v HBD.out (border_any h _ _ _ l S _ (HLW.out.ext (by repeat (first | exact Ext.refl _ | refine Ext.alloc ?_ _ | assumption | refine Ext.over ?_ _ | refine Ext.drew ?_ | refine Ext.drewN ?_ _))) rfl (by omega) (by omega) hS128)).calm)))); refine wpQuiet_nil ?_; rintro w1 ⟨x1, rfl⟩)
            go_wp2_with fail
            go_roundw
            case rel => exact ⟨k + 1, by omega, by go_num, rfl, rfl, HE.out.trans (by repeat (first | exact Ext.refl _ | refine Ext.alloc ?_ _ | assumption | refine Ext.over ?_ _ | refine Ext.drew ?_ | refine Ext.drewN ?_ _))⟩
            case measure => simp [intOf]; omega
          · obtain rfl : k = j := by omega
            rcases Int.lt_or_le (bo + 1) y with hmx | hmx
            all_goals
              have htest : decide ((if bo + 1 < y then y else bo + 1) ≤ v0) = true := by
                have h5 := HJM.out
                rw [← HQ.out, ← HY.out] at h5
                rw [decide_eq_true_eq]
                split <;> omega
              have htest2 : (if bo + 1 < y then y else bo + 1) ≤ v0 := of_decide_eq_true htest
              first | rw [if_pos hmx] at htest htest2 | rw [if_neg (by omega)] at htest htest2
              go_wp2_with fail
              (refine wp_region_calm (by kernel_rfl) (by kernel_rfl) ?_; (repeat (go_big_quiet_step ((go_at_call 67; exact (gives_v HBD.out (border_any h _ _ _ l S _ (HLW.out.ext (by repeat (first | exact Ext.refl _ | refine Ext.alloc ?_ _ | assumption | refine Ext.over ?_ _ | refine Ext.drew ?_ | refine Ext.drewN ?_ _))) rfl (by omega) (by omega) hS128)).calm)))); refine wpQuiet_nil ?_; rintro w1 ⟨x1, rfl⟩)
              go_wp2_with (at_builtin; refine wpList_pushO (w1) (w.heap.size + 1) rfl (.tmp 48) (.tmp 50) 31 rfl 3 Try.underlying31 info_int rfl (by decide) (w.heap.size) _ b.length _ _ rfl (wr) HOW.out HTW.out (by repeat (first | exact Ext.refl _ | refine Ext.alloc ?_ _ | assumption | refine Ext.over ?_ _ | refine Ext.drew ?_ | refine Ext.drewN ?_ _)) ?_ _ 1 1 [.int .i64 (k)] rfl rfl (lit_cells _ _ (by first | (simp; done) | simp [ovr_size]) _ _) (by intro u hu; simp at hu; subst hu; rfl) (by decide) (by omega) (by decide) ?_)
              · omega
              intro A3 c3 w3 hown3 hout3
              have HO3 := hid hown3
              have HT3 := hid hout3
              clear hown3 hout3
              go_wp2_with fail
              go_roundw
              case rel =>
                refine ⟨b ++ [k], A3, c3, HBG.out.snoc hj hjc, by simp; omega, ?_, by simp, ?_, ?_, HT3.out⟩
                · rw [HRR.out]; exact HJB.out
                · rw [HSN.out, ← HQ.out]
                · rw [ci_app, List.map_append]; simpa using HO3.out
              case measure => have h9 := HRM.out; simp only [lenV]; first | exact h9 | omega
    · have HR := hid (show bestOrder h l = ci b by
        rw [HB.out, Int.toNat_natCast, ← HBS.out, show h - b.length = 0 by omega]; rfl)
      go_wp2_with fail
      go_ret
      rw [HR.out]
      exact ⟨_, _, _, rfl, HO.out, HEX.out⟩
end Go.Proofs.Ytngniniiohgilaa
