/- The walk of FnHouses: it returns true. Conditions: its arguments read as lists. (P23) -/
import Derived.Test.YtngniniiohgilaaDrawHouse
import Derived.Test.YtngniniiohgilaaLawB
import Derived.Test.YtngniniiohgilaaLawHas
import Derived.Test.YtngniniiohgilaaHasDoor
import Derived.Test.YtngniniiohgilaaDoorsFrom
import Derived.Test.YtngniniiohgilaaHall
import Derived.Test.YtngniniiohgilaaLinkedI
namespace Go.Proofs.Ytngniniiohgilaa
open Go.RowKit
set_option linter.unusedVariables false
namespace fnHouses
theorem nat_list (h : Nat) : ∃ hs : List Int, hs = (List.range h).map (fun (k : Nat) => (k : Int)) := ⟨_, rfl⟩
def upTo (h : Nat) : List Int := (List.range h).map fun (k : Nat) => (k : Int)
theorem upTo_len (h : Nat) : (upTo h).length = h := by simp [upTo]
theorem upTo_at {h k : Nat} (hk : k < h) : atI (upTo h) k = k := by rw [atI_eq _ _ (by rw [upTo_len]; exact hk)]; simp [upTo]
theorem upTo_succ (h : Nat) : upTo (h + 1) = upTo h ++ [(h : Int)] := by simp [upTo, List.range_succ]
theorem upTo_mem {h k : Nat} (hk : k < h) : memI (upTo h) k = true := by
  rw [memI_iff]; exact List.mem_map.2 ⟨k, List.mem_range.2 hk, rfl⟩
theorem linked_upTo {h : Nat} {l : List T2} (g : houseOk h l = true) : linked h l (upTo h) = true := by
  obtain ⟨_, h1, _, _⟩ := houseOk_bounds g
  have h0 : 0 < h := by omega
  refine linked_yes (halls_iff.2 ⟨g, fun k hk => ?_⟩) (fun i hi => ?_)
  · rw [upTo_len] at hk
    rw [upTo_at hk]; omega
  · rw [upTo_len] at hi
    unfold near0
    rw [upTo_at hi, upTo_at h0, decide_eq_true_eq]
    show 0 ≤ dist h (adjL l (upTo h)) 0 i
    have hw := dist_way h0 (reach_all g h0 hi)
    have key : ∀ m v, Way h (adjD l) 0 m v → Way h (adjL l (upTo h)) 0 m v := by
      intro m v hw
      induction hw with
      | nil => exact .nil
      | @snoc m u v h1 h2 h3 ih =>
        refine .snoc ih h2 ?_
        unfold adjL
        rw [upTo_mem h2, Bool.and_true, hasD_symm]
        exact h3
    exact (dist_le h0 (key _ _ hw)).1
theorem hd_in {h a b : Nat} {l : List T2} (g : houseOk h l = true) (ha : a < h) (hb : b < h) : hallDist h l a b = dist h (adjD l) a b := by
  have h1 : hasHall h l a = true := hasHall_iff.2 ⟨g, by omega, by omega⟩
  have h2 : hasHall h l b = true := hasHall_iff.2 ⟨g, by omega, by omega⟩
  rw [hallDist_ab h1 h2, Int.toNat_natCast, Int.toNat_natCast, Int.toNat_natCast]
set_option maxHeartbeats 3200000 in
set_option maxRecDepth 100000 in
theorem walk (w : World) (A0 : Option Addr) (n0 c0 : Nat) (zs0 : List Int) (hr0 : Row w A0 (zs0.map (Value.int .u8))) (hl0 : zs0.length = n0) (hn0 : n0 ≤ maxLen) (hz0 : ∀ z ∈ zs0, 0 ≤ z ∧ z ≤ 255) : Gives Try.prog 3 #[.slice A0 n0 c0] w (.bool true) := by
  unfold maxLen at hn0
  have HZ := hid hz0
  clear hz0
  by_cases hbig : (1048576 : Int) < n0
  · have hb := decide_eq_true hbig
    (unfold Gives; go_enter Try.func3, Try.ntmps3)
    go_wp2_with (go_at_call 7; refine (gives_b hb (big_any _ _ _ _)).over.mono ?_; rintro e w' ⟨rfl, xw, rfl⟩)
    go_ret
    exact ⟨rfl, by repeat (first | exact Ext.refl _ | refine Ext.alloc ?_ _ | assumption | refine Ext.over ?_ _ | refine Ext.drew ?_ | refine Ext.drewN ?_ _)⟩
  have hb := decide_eq_false hbig
  (unfold Gives; go_enter Try.func3, Try.ntmps3)
  go_wp2_with (go_at_call 7; refine (gives_b hb (big_any _ _ _ _)).over.mono ?_; rintro e w' ⟨rfl, xw, rfl⟩)
  refine (DrawHouse_any A0 n0 c0 zs0 _ (hr0.ext (by repeat (first | exact Ext.refl _ | refine Ext.alloc ?_ _ | assumption | refine Ext.over ?_ _ | refine Ext.drew ?_ | refine Ext.drewN ?_ _))) hl0 (by omega) HZ.out).mono ?_
  rintro _ w1 ⟨h, m, c, D, l, a, b, rfl, hok, ho, hlm, hah, hbh, he⟩
  obtain ⟨_, h1, h7, h12⟩ := houseOk_bounds hok
  have HOK := hid hok
  have HE := hid (Ext.trans (show Ext w _ by repeat (first | exact Ext.refl _ | refine Ext.alloc ?_ _ | assumption | refine Ext.over ?_ _ | refine Ext.drew ?_ | refine Ext.drewN ?_ _)) he)
  have HL := hid (Row.of_own ho)
  have hv := atV_bound HZ.out 0
  clear hok ho he
  go_wp2_with fail
  have HAT := hid (fun (w' : World) (e : Ext w w') => at_any A0 n0 c0 zs0 0 w' (hr0.ext e) hl0 (by omega) (by omega) HZ.out)
  have hm0 := Int.emod_nonneg (atV zs0 0) (show (h : Int) ≠ 0 by omega)
  have hm1 := Int.emod_lt_of_pos (atV zs0 0) (show (0 : Int) < h by omega)
  obtain ⟨k, hk⟩ : ∃ k : Nat, atV zs0 0 % (h : Int) = k := ⟨(atV zs0 0 % (h : Int)).toNat, by omega⟩
  have htm : (atV zs0 0).tmod (h : Int) = (k : Int) := by rw [Int.tmod_eq_emod_of_nonneg hv.1]; exact hk
  have hkh : k < h := by omega
  have hw : IntKind.i64.wrap (k : Int) = k := IntWalk.i64_in _ ⟨by omega, by omega⟩
  have hh0 : ((h : Int) == 0) = false := by rw [beq_eq_false_iff_ne]; omega
  clear hm0 hm1
  generalize atV zs0 0 = v at HAT hv hk htm
  obtain ⟨wt, hwt⟩ : ∃ wt, wt = w1.alloc (.cells #[.int .i64 ↑h, .slice D m c] 26) := ⟨_, rfl⟩
  have het : Ext w1 wt := by rw [hwt]; repeat (first | exact Ext.refl _ | refine Ext.alloc ?_ _ | assumption | refine Ext.over ?_ _ | refine Ext.drew ?_ | refine Ext.drewN ?_ _)
  have b0 : wt.cell? ⟨w1.heap.size, 0, none⟩ = some (.int .i64 ↑h) := by rw [hwt]; go_simp
  have b1 : wt.cell? ⟨w1.heap.size, 1, none⟩ = some (.slice D m c) := by rw [hwt]; go_simp
  have HT := hid (HE.out.trans het)
  have HLT := hid (HL.out.ext het)
  rw [← hwt]
  generalize w1.heap.size = gh at b0 b1 ⊢
  clear hwt het HL HE
  (refine wp_region_calm (by kernel_rfl) (by kernel_rfl) ?_; (repeat (go_big_quiet_step ((go_at_call 9; exact (HAT.out _ (HT.out.trans (by repeat (first | exact Ext.refl _ | refine Ext.alloc ?_ _ | assumption | refine Ext.over ?_ _ | refine Ext.drew ?_ | refine Ext.drewN ?_ _)))).calm)))); refine wpQuiet_nil ?_; rintro w1 ⟨x1, rfl⟩)
  go_wp2_with (go_at_call 10; refine (iHallDistance_any _ _ _ _ l _ _ _ (HLT.out.ext (by repeat (first | exact Ext.refl _ | refine Ext.alloc ?_ _ | assumption | refine Ext.over ?_ _ | refine Ext.drew ?_ | refine Ext.drewN ?_ _))) hlm (by omega)).over.mono ?_; rintro e w' ⟨rfl, xw, rfl⟩)
  refine (iDoorsFrom_any h D m c l a _ (HLT.out.ext (by repeat (first | exact Ext.refl _ | refine Ext.alloc ?_ _ | assumption | refine Ext.over ?_ _ | refine Ext.drew ?_ | refine Ext.drewN ?_ _))) hlm (by omega)).mono ?_
  rintro _ w2 ⟨A2, m2, c2, rfl, ho2, he2⟩
  have ha1 : hasHall h l a = true := hasHall_iff.2 ⟨HOK.out, by omega, by omega⟩
  have HDF := hid (show doorsFrom h l a = links l a h by rw [doorsFrom_yes ha1]; rfl)
  have HMEM := hid (show ∀ q, q < h → memI (doorsFrom h l a) q = hasD l a q from fun q hq => by
    rw [HDF.out, Bool.eq_iff_iff, memI_iff]
    unfold links
    rw [idxs_mem]
    constructor
    · rintro ⟨j, h1, h2, h3⟩
      have : q = j := by omega
      rw [this]; exact h3
    · intro h3; exact ⟨q, rfl, hq, h3⟩)
  have hm2 := own_len ho2
  have hm7 := doorsFrom_len h l a
  have HD2 := hid (Row.of_own ho2)
  have e02 : Ext wt w2 := Ext.trans (by repeat (first | exact Ext.refl _ | refine Ext.alloc ?_ _ | assumption | refine Ext.over ?_ _ | refine Ext.drew ?_ | refine Ext.drewN ?_ _)) he2
  have H2 := hid (HT.out.trans e02)
  have HL2 := hid (HLT.out.ext e02)
  have p0 := old_cell e02 b0
  have p1 := old_cell e02 b1
  clear b0 b1 ho2 he2 e02 HT HLT ha1 HAT
  go_wp2_with fail
  go_loopw [9, 10] (fun av kv wr => ∃ (q : Nat) (A' : Option Addr) (c' : Nat), q ≤ h ∧ kv = .int .i64 ↑q ∧ av = .slice A' q c' ∧ wr.ownsRow w2.heap.size 3 1 (.slice A' q c') q ((upTo q).map (Value.int .i64)) ∧ Ext w2 wr) (fun _ kv _ => h - (intOf kv).toNat)
  case atStart => exact ⟨0, _, _, by omega, rfl, rfl, own_empty _ _ _ rfl (Nat.le_refl _) _ _, by repeat (first | exact Ext.refl _ | refine Ext.alloc ?_ _ | assumption | refine Ext.over ?_ _ | refine Ext.drew ?_ | refine Ext.drewN ?_ _)⟩
  case round =>
    obtain ⟨q, A', c', hq, rfl, rfl, hown, he⟩ := hrel
    have HO := hid hown
    have HE := hid he
    have b0 := old_cell he p0
    have b1 := old_cell he p1
    clear hown he
    by_cases hlt : q < h
    · go_wp2_with (at_builtin; refine wpList_push (w2) rfl (.tmp 38) (.tmp 40) 31 rfl 3 Try.underlying31 info_int rfl (by decide) _ q _ rfl (wr) HO.out (by repeat (first | exact Ext.refl _ | refine Ext.alloc ?_ _ | assumption | refine Ext.over ?_ _ | refine Ext.drew ?_ | refine Ext.drewN ?_ _)) (by repeat (first | exact Ext.refl _ | refine Ext.alloc ?_ _ | assumption | refine Ext.over ?_ _ | refine Ext.drew ?_ | refine Ext.drewN ?_ _)) _ 1 1 [.int .i64 (q)] rfl rfl (lit_cells _ _ (by first | (simp; done) | simp [ovr_size]) _ _) (by intro u hu; simp at hu; subst hu; rfl) (by omega) (by decide) ?_)
      intro A3 c3 w3 hown3 he3
      have HO3 := hid (show w3.ownsRow w2.heap.size 3 1 (.slice A3 (q + 1) c3) (q + 1) ((upTo (q + 1)).map (Value.int .i64)) by rw [upTo_succ, List.map_append]; exact hown3)
      have HE3 := hid he3
      have HL3 := hid (HL2.out.ext he3)
      have HD3 := hid (HD2.out.ext he3)
      have d0 := old_cell he3 p0
      have d1 := old_cell he3 p1
      clear hown3 he3 b0 b1
      have HM := hid (HMEM.out q hlt)
      cases hx : hasD l a q
      all_goals
        have HA1 := hid ((show hasDoor h l a q = hasD l a q by unfold hasDoor; rw [HOK.out, Bool.true_and]).trans hx)
        have HA2 := hid (HM.out.trans hx)
        go_wp2_with (first | (go_at_call 12; refine (gives_b HA1.out (iHasDoor_any _ _ _ _ l _ _ _ (HL3.out.ext (by repeat (first | exact Ext.refl _ | refine Ext.alloc ?_ _ | assumption | refine Ext.over ?_ _ | refine Ext.drew ?_ | refine Ext.drewN ?_ _))) hlm (by omega))).over.mono ?_; rintro e w' ⟨rfl, xw, rfl⟩) | (go_at_call 13; refine (gives_b HA2.out (has_any _ _ _ (doorsFrom h l a) _ _ (HD3.out.ext (by repeat (first | exact Ext.refl _ | refine Ext.alloc ?_ _ | assumption | refine Ext.over ?_ _ | refine Ext.drew ?_ | refine Ext.drewN ?_ _))) hm2 (by omega))).over.mono ?_; rintro e w' ⟨rfl, xw, rfl⟩))
        go_roundw
        case rel => exact ⟨q + 1, A3, c3, by omega, by go_num, rfl, own_ext HO3.out (by repeat (first | exact Ext.refl _ | refine Ext.alloc ?_ _ | assumption | refine Ext.over ?_ _ | refine Ext.drew ?_ | refine Ext.drewN ?_ _)), HE3.out.trans (by repeat (first | exact Ext.refl _ | refine Ext.alloc ?_ _ | assumption | refine Ext.over ?_ _ | refine Ext.drew ?_ | refine Ext.drewN ?_ _))⟩
        case measure => simp [intOf]; omega
    · obtain rfl : q = h := by omega
      have HLW := hid (HL2.out.ext HE.out)
      have HRW := hid (Row.of_own HO.out)
      have HLK := hid (linked_upTo HOK.out)
      have hab := hd_in HOK.out hah hbh
      have hba := hd_in HOK.out hbh hah
      have hak := hd_in HOK.out hah hkh
      have hkb := hd_in HOK.out hkh hbh
      have r1 := reach_all HOK.out hah hbh
      have r2 := reach_all HOK.out hah hkh
      have r3 := reach_all HOK.out hkh hbh
      have s1 := depthD (l := l) (h := q) (a := a) k hah
      have s2 := depthD (l := l) (h := q) (a := k) b hkh
      have g1 : decide (0 ≤ hallDist q l a b) = true := by rw [hab]; exact decide_eq_true r1
      have g2 : (hallDist q l a b == hallDist q l b a) = true := by rw [hab, hba, beq_iff_eq]; exact dist_symm hah hbh (adjD_symm l)
      have g3 : decide (hallDist q l a b ≤ hallDist q l a k + hallDist q l k b) = true := by
        rw [hab, hak, hkb]; exact decide_eq_true (dist_tri hah hkh r2 r3).2
      have gw : IntKind.i64.wrap (hallDist q l a k + hallDist q l k b) = hallDist q l a k + hallDist q l k b := IntWalk.i64_in _ (by rw [hak, hkb]; omega)
      have HZ0 := hid (show (hallDist q l a b == 0) = ((a : Int) == b) by
        rw [hab, Bool.eq_iff_iff, beq_iff_eq, beq_iff_eq]
        constructor
        · intro e; have := dist_zero hah e; omega
        · intro e
          have e' : a = b := by omega
          rw [e']; exact dist_self hbh)
      have HZ1 := hid (show (hallDist q l a b == 1) = hasDoor q l a b by
        unfold hasDoor
        rw [hab, HOK.out, Bool.true_and, Bool.eq_iff_iff, beq_iff_eq, dist_one hah]
        constructor
        · rintro ⟨_, _, h3⟩; rw [hasD_symm]; exact h3
        · intro h3
          refine ⟨hbh, ?_, by show hasD l b a = true; rw [hasD_symm]; exact h3⟩
          rintro rfl
          rw [hasD_self (houseOk_bounds HOK.out).1] at h3
          cases h3)
      clear hab hba hak hkb r1 r2 r3 s1 s2
      cases hd : hasDoor q l a b
      all_goals
        cases he : ((a : Int) == b)
        all_goals
          have hz0 := HZ0.out.trans he
          have hz1 := HZ1.out.trans hd
          go_wp2_with fail
          (refine wp_region_calm (by kernel_rfl) (by kernel_rfl) ?_; (repeat (go_big_quiet_step ((first | (go_at_call 10; exact (iHallDistance_any _ _ _ _ l _ _ _ (HLW.out.ext (by repeat (first | exact Ext.refl _ | refine Ext.alloc ?_ _ | assumption | refine Ext.over ?_ _ | refine Ext.drew ?_ | refine Ext.drewN ?_ _))) hlm (by omega)).calm) | (go_at_call 12; exact (gives_b hd (iHasDoor_any _ _ _ _ l _ _ _ (HLW.out.ext (by repeat (first | exact Ext.refl _ | refine Ext.alloc ?_ _ | assumption | refine Ext.over ?_ _ | refine Ext.drew ?_ | refine Ext.drewN ?_ _))) hlm (by omega))).calm) | (go_at_call 14; exact (gives_b HLK.out (iLinked_any _ _ _ _ l _ _ _ (upTo q) _ (HLW.out.ext (by repeat (first | exact Ext.refl _ | refine Ext.alloc ?_ _ | assumption | refine Ext.over ?_ _ | refine Ext.drew ?_ | refine Ext.drewN ?_ _))) hlm (by omega) (HRW.out.ext (by repeat (first | exact Ext.refl _ | refine Ext.alloc ?_ _ | assumption | refine Ext.over ?_ _ | refine Ext.drew ?_ | refine Ext.drewN ?_ _))) (upTo_len q) (by omega))).calm) | (go_at_call 15; exact (gives_b HOK.out (iHouseOk_any _ _ _ _ l _ (HLW.out.ext (by repeat (first | exact Ext.refl _ | refine Ext.alloc ?_ _ | assumption | refine Ext.over ?_ _ | refine Ext.drew ?_ | refine Ext.drewN ?_ _))) hlm (by omega))).calm))))); refine wpQuiet_nil ?_; rintro w1 ⟨x1, rfl⟩)
          go_wp2_with fail
          go_ret
          exact ⟨rfl, H2.out.trans (HE.out.trans (by repeat (first | exact Ext.refl _ | refine Ext.alloc ?_ _ | assumption | refine Ext.over ?_ _ | refine Ext.drew ?_ | refine Ext.drewN ?_ _)))⟩

end fnHouses
end Go.Proofs.Ytngniniiohgilaa
