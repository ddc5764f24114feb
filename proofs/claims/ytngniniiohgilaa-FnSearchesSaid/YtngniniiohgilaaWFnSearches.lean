/- The walk of FnSearches: it returns true. Conditions: its arguments read as lists. (P24) -/
import Derived.Test.YtngniniiohgilaaDrawOrder
import Derived.Test.YtngniniiohgilaaSearchQ
import Derived.Test.YtngniniiohgilaaLawB
import Derived.Test.YtngniniiohgilaaLawHas
import Derived.Test.YtngniniiohgilaaDoorsFrom
import Derived.Test.YtngniniiohgilaaFewestJ
import Derived.Test.YtngniniiohgilaaForI
namespace Go.Proofs.Ytngniniiohgilaa
open Go.RowKit
set_option linter.unusedVariables false
namespace fnSearches
set_option maxHeartbeats 1600000 in
set_option maxRecDepth 100000 in
theorem walk (w : World) (A0 : Option Addr) (n0 c0 : Nat) (zs0 : List Int) (hr0 : Row w A0 (zs0.map (Value.int .u8))) (hl0 : zs0.length = n0) (hn0 : n0 ≤ maxLen) (hz0 : ∀ z ∈ zs0, 0 ≤ z ∧ z ≤ 255) : Gives Try.prog 4 #[.slice A0 n0 c0] w (.bool true) := by
  unfold maxLen at hn0
  have HZ := hid hz0
  clear hz0
  by_cases hbig : (1048576 : Int) < n0
  · have hb := decide_eq_true hbig
    (unfold Gives; go_enter Try.func4, Try.ntmps4)
    go_wp2_with (go_at_call 7; refine (gives_b hb (big_any _ _ _ _)).over.mono ?_; rintro e w' ⟨rfl, xw, rfl⟩)
    go_ret
    exact ⟨rfl, by repeat (first | exact Ext.refl _ | refine Ext.alloc ?_ _ | assumption | refine Ext.over ?_ _ | refine Ext.drew ?_ | refine Ext.drewN ?_ _)⟩
  have hb := decide_eq_false hbig
  (unfold Gives; go_enter Try.func4, Try.ntmps4)
  go_wp2_with (go_at_call 7; refine (gives_b hb (big_any _ _ _ _)).over.mono ?_; rintro e w' ⟨rfl, xw, rfl⟩)
  refine (DrawOrder_any A0 n0 c0 zs0 _ (hr0.ext (by repeat (first | exact Ext.refl _ | refine Ext.alloc ?_ _ | assumption | refine Ext.over ?_ _ | refine Ext.drew ?_ | refine Ext.drewN ?_ _))) hl0 (by omega) HZ.out).mono ?_
  rintro _ w1 ⟨h, m, c, D, l, B, c2, o, rfl, hok, ho, hlm, hbo, hol, hob, he⟩
  obtain ⟨_, h1, h7, h12⟩ := houseOk_bounds hok
  have h1' : 1 ≤ h := by omega
  have h7' : h ≤ 7 := by omega
  obtain ⟨q, hq⟩ : ∃ q, q = h / 2 := ⟨_, rfl⟩
  have htd : (h : Int).tdiv 2 = (q : Int) := by rw [Int.tdiv_eq_ediv_of_nonneg (by omega)]; omega
  have hqh : q < h := by omega
  obtain ⟨N, F, eN, eF, eO, eB, s1, s2, s3, s4, ⟨v, hv, hdv⟩, s6⟩ := search_sums hok hbo hol hqh
  have HOK := hid hok
  have HS4 := hid s4
  have HBN := hid (bestOrder_len h l)
  have HDV := hid hdv
  have HV := hid hv
  have HEN := hid eN
  have HEF := hid eF
  have HEO := hid eO
  have HEB := hid eB
  have HE := hid (Ext.trans (show Ext w _ by repeat (first | exact Ext.refl _ | refine Ext.alloc ?_ _ | assumption | refine Ext.over ?_ _ | refine Ext.drew ?_ | refine Ext.drewN ?_ _)) he)
  have HL := hid (Row.of_own ho)
  have HO := hid (Row.of_own hob)
  have hcap := own_cap hob
  have HOL := hid (show (ci o).length = h by rw [ci_len, hol])
  have hN0 : (1 : Int) ≤ N := by omega
  clear hok ho he hbo hol hob hq s4 eN eF eO eB hv hdv hr0
  go_wp2_with fail
  obtain ⟨wt, hwt⟩ : ∃ wt, wt = w1.alloc (.cells #[.int .i64 ↑h, .slice D m c] 26) := ⟨_, rfl⟩
  have het : Ext w1 wt := by rw [hwt]; repeat (first | exact Ext.refl _ | refine Ext.alloc ?_ _ | assumption | refine Ext.over ?_ _ | refine Ext.drew ?_ | refine Ext.drewN ?_ _)
  have b0 : wt.cell? ⟨w1.heap.size, 0, none⟩ = some (.int .i64 ↑h) := by rw [hwt]; go_simp
  have b1 : wt.cell? ⟨w1.heap.size, 1, none⟩ = some (.slice D m c) := by rw [hwt]; go_simp
  have HT := hid (HE.out.trans het)
  have HLT := hid (HL.out.ext het)
  have HOT := hid (HO.out.ext het)
  rw [← hwt]
  generalize w1.heap.size = gh at b0 b1 ⊢
  clear hwt het HL HE HO
  go_wp2_with (go_at_call 17; refine (gives_v HEN.out (iFewest_any _ _ _ _ l _ (HLT.out.ext (by repeat (first | exact Ext.refl _ | refine Ext.alloc ?_ _ | assumption | refine Ext.over ?_ _ | refine Ext.drew ?_ | refine Ext.drewN ?_ _))) hlm (by omega))).over.mono ?_; rintro e w' ⟨rfl, xw, rfl⟩)
  refine (iBest_any h D m c l _ (HLT.out.ext (by repeat (first | exact Ext.refl _ | refine Ext.alloc ?_ _ | assumption | refine Ext.over ?_ _ | refine Ext.drew ?_ | refine Ext.drewN ?_ _))) hlm (by omega)).mono ?_
  rintro _ w2 ⟨A2, m2, c2', rfl, ho2, he2⟩
  have hm2 := own_len ho2
  have hcap2 := own_cap ho2
  have HB2 := hid (Row.of_own ho2)
  have e02 : Ext wt w2 := Ext.trans (by repeat (first | exact Ext.refl _ | refine Ext.alloc ?_ _ | assumption | refine Ext.over ?_ _ | refine Ext.drew ?_ | refine Ext.drewN ?_ _)) he2
  have H2 := hid (HT.out.trans e02)
  have HL2 := hid (HLT.out.ext e02)
  have HO2 := hid (HOT.out.ext e02)
  have p0 := old_cell e02 b0
  have p1 := old_cell e02 b1
  have hm7 : m2 ≤ 7 := by have := HBN.out; omega
  clear b0 b1 ho2 he2 e02 HT HLT HOT
  go_wp2_with fail
  go_loopw [7, 8] (fun lv kv wr => ∃ (r k : Nat), k ≤ h ∧ r ≤ h ∧ kv = .int .i64 ↑k ∧ lv = .int .i64 ↑r ∧ (∀ j, j < k → r ≤ deg l h j) ∧ Ext w2 wr) (fun _ kv _ => h - (intOf kv).toNat)
  case atStart => exact ⟨h, 0, by omega, by omega, rfl, rfl, by omega, Ext.refl _⟩
  case round =>
    obtain ⟨r, k, hk, hrh, rfl, rfl, hdeg, he⟩ := hrel
    have HD := hid hdeg
    have HE := hid he
    have b0 := old_cell he p0
    have b1 := old_cell he p1
    clear hdeg he
    by_cases hlt : k < h
    · go_wp2_with fail
      refine (sDoorsFrom_any h D m c l k _ (HL2.out.ext (HE.out.trans (by repeat (first | exact Ext.refl _ | refine Ext.alloc ?_ _ | assumption | refine Ext.over ?_ _ | refine Ext.drew ?_ | refine Ext.drewN ?_ _)))) hlm (by omega)).mono ?_
      rintro _ w3 ⟨A3, m3, c3, rfl, ho3, he3⟩
      have hm3 := own_len ho3
      have HM3 := hid (show m3 = deg l h k by rw [← hm3, doorsFrom_yes (hasHall_iff.2 ⟨HOK.out, by omega, by omega⟩), Int.toNat_natCast]; exact deg_links l h k)
      have hm3' : m3 ≤ 7 := by have := doorsFrom_len h l k; omega
      have HE3 := hid (HE.out.trans (Ext.trans (by repeat (first | exact Ext.refl _ | refine Ext.alloc ?_ _ | assumption | refine Ext.over ?_ _ | refine Ext.drew ?_ | refine Ext.drewN ?_ _)) he3))
      clear ho3 he3 hm3 b0 b1
      have HR3 := hid (show ∀ j, j < k + 1 → min r m3 ≤ deg l h j from fun j hj => by
        have hmm := HM3.out
        rcases Nat.lt_or_ge j k with h5 | h5
        · have := HD.out j h5; omega
        · obtain rfl : j = k := by omega
          omega)
      go_wp2_with fail
      go_roundw
      case rel => exact ⟨min r m3, k + 1, by omega, by omega, by go_num, by go_num, HR3.out, HE3.out.trans (by repeat (first | exact Ext.refl _ | refine Ext.alloc ?_ _ | assumption | refine Ext.over ?_ _ | refine Ext.drew ?_ | refine Ext.drewN ?_ _))⟩
      case measure => simp [intOf]; omega
    · obtain rfl : k = h := by omega
      have hr7 : (r : Int) + 1 ≤ N := by have := HD.out _ HV.out; have := HDV.out; omega
      have HLW := hid (HL2.out.ext HE.out)
      have HOW := hid (HO2.out.ext HE.out)
      have HBW := hid (HB2.out.ext HE.out)
      clear HD
      go_wp2_with fail
      refine (iAfter_any k D m c l B q c2 ((ci o).take q) _ (HLW.out.ext (by repeat (first | exact Ext.refl _ | refine Ext.alloc ?_ _ | assumption | refine Ext.over ?_ _ | refine Ext.drew ?_ | refine Ext.drewN ?_ _))) hlm (by omega) ((HOW.out.ext (by repeat (first | exact Ext.refl _ | refine Ext.alloc ?_ _ | assumption | refine Ext.over ?_ _ | refine Ext.drew ?_ | refine Ext.drewN ?_ _))).take q) (by rw [List.length_take, HOL.out]; omega) (by omega)).mono ?_
      rintro _ w4 ⟨A4, m4, c4, rfl, ho4, he4⟩
      have hm4 := own_len ho4
      have HG4 := hid (Row.of_own ho4)
      have hF4 : (m4 : Int) + 1 ≤ F := by have := HS4.out; rw [hm4] at this; exact this
      have E4 := hid (Ext.trans (show Ext wr _ by repeat (first | exact Ext.refl _ | refine Ext.alloc ?_ _ | assumption | refine Ext.over ?_ _ | refine Ext.drew ?_ | refine Ext.drewN ?_ _)) he4)
      have d0 := old_cell E4.out b0
      have d1 := old_cell E4.out b1
      have HL4 := hid (HLW.out.ext E4.out)
      have HO4 := hid (HOW.out.ext E4.out)
      have HB4 := hid (HBW.out.ext E4.out)
      have H4 := hid (H2.out.trans (HE.out.trans E4.out))
      have hql : ((ci o).take q).length = q := by rw [List.length_take, HOL.out]; omega
      clear ho4 he4 E4 HLW HOW HBW H2 HE HL2 HO2 HB2 b0 b1 p0 p1
      obtain ⟨G, hG⟩ : ∃ G, G = guardsOf k l ((ci o).take q) := ⟨_, rfl⟩
      have HIN := hid (show ∀ j, j < m4 → memI ((ci o).take q) (atI G j) = true from fun j hj => by rw [hG]; exact guards_in (by rw [hm4]; exact hj))
      rw [← hG] at hm4 HG4
      have HM4 := hid hm4
      have HQL := hid hql
      clear hG hm4 hql HS4
      go_wp2_with fail
      go_loopw [11] (fun kv wr => ∃ (j : Nat), j ≤ m4 ∧ kv = .int .i64 ↑j ∧ Ext w4 wr) (fun kv _ => m4 - (intOf kv).toNat)
      case atStart => exact ⟨0, by omega, rfl, Ext.refl _⟩
      case round =>
        obtain ⟨j, hj, rfl, he⟩ := hrel
        rename World => wo
        have HE := hid he
        by_cases hlt : j < m4
        · have hi := HIN.out j hlt
          have HI := hid hi
          obtain ⟨b, off, rfl, hcell⟩ := (HG4.out.ext he).ints (by rw [HM4.out]; exact hlt)
          have cj := hcell j (by rw [HM4.out]; exact hlt)
          have HOX := hid ((HO4.out.ext he).take q)
          clear hcell hi he d0 d1
          go_wp2_with (go_at_call 13; refine (gives_b HI.out (has_any _ _ _ ((ci o).take q) _ _ (HOX.out.ext (by repeat (first | exact Ext.refl _ | refine Ext.alloc ?_ _ | assumption | refine Ext.over ?_ _ | refine Ext.drew ?_ | refine Ext.drewN ?_ _))) HQL.out (by omega))).over.mono ?_; rintro e w' ⟨rfl, xw, rfl⟩)
          go_roundw
          case rel => exact ⟨j + 1, by omega, by go_num, HE.out.trans (by repeat (first | exact Ext.refl _ | refine Ext.alloc ?_ _ | assumption | refine Ext.over ?_ _ | refine Ext.drew ?_ | refine Ext.drewN ?_ _))⟩
          case measure => simp [intOf]; omega
        · obtain rfl : j = m4 := by omega
          have b0 := old_cell he d0
          have b1 := old_cell he d1
          have HLX := hid (HL4.out.ext he)
          have HOX := hid (HO4.out.ext he)
          have HBX := hid (HB4.out.ext he)
          have HX := hid (H4.out.trans he)
          clear he HE d0 d1 HL4 HO4 HB4 H4 HIN
          cases hz : ((k : Int) == 1)
          all_goals
            have z6 := s6.trans hz
            clear s6
            go_wp2_with fail
            refine (gives_v HEF.out (iFor_any k D m c l B k c2 (ci o) _ (HLX.out.ext (by repeat (first | exact Ext.refl _ | refine Ext.alloc ?_ _ | assumption | refine Ext.over ?_ _ | refine Ext.drew ?_ | refine Ext.drewN ?_ _))) hlm (by omega) (HOX.out.ext (by repeat (first | exact Ext.refl _ | refine Ext.alloc ?_ _ | assumption | refine Ext.over ?_ _ | refine Ext.drew ?_ | refine Ext.drewN ?_ _))) HOL.out (by omega) hcap)).over.mono ?_
            rintro e w' ⟨rfl, xw, rfl⟩
            go_wp2_with fail
            refine (gives_b HEO.out (iOrderOk_any k D m c l _ _ _ (bestOrder k l) _ (HLX.out.ext (by repeat (first | exact Ext.refl _ | refine Ext.alloc ?_ _ | assumption | refine Ext.over ?_ _ | refine Ext.drew ?_ | refine Ext.drewN ?_ _))) hlm (by omega) (HBX.out.ext (by repeat (first | exact Ext.refl _ | refine Ext.alloc ?_ _ | assumption | refine Ext.over ?_ _ | refine Ext.drew ?_ | refine Ext.drewN ?_ _))) hm2 (by omega) hcap2)).over.mono ?_
            rintro e w' ⟨rfl, xw, rfl⟩
            go_wp2_with fail
            refine (gives_v HEB.out (iFor_any k D m c l _ _ _ (bestOrder k l) _ (HLX.out.ext (by repeat (first | exact Ext.refl _ | refine Ext.alloc ?_ _ | assumption | refine Ext.over ?_ _ | refine Ext.drew ?_ | refine Ext.drewN ?_ _))) hlm (by omega) (HBX.out.ext (by repeat (first | exact Ext.refl _ | refine Ext.alloc ?_ _ | assumption | refine Ext.over ?_ _ | refine Ext.drew ?_ | refine Ext.drewN ?_ _))) hm2 (by omega) hcap2)).over.mono ?_
            rintro e w' ⟨rfl, xw, rfl⟩
            go_wp2_with fail
            refine (gives_v HEF.out (iFor_any k D m c l B k c2 (ci o) _ (HLX.out.ext (by repeat (first | exact Ext.refl _ | refine Ext.alloc ?_ _ | assumption | refine Ext.over ?_ _ | refine Ext.drew ?_ | refine Ext.drewN ?_ _))) hlm (by omega) (HOX.out.ext (by repeat (first | exact Ext.refl _ | refine Ext.alloc ?_ _ | assumption | refine Ext.over ?_ _ | refine Ext.drew ?_ | refine Ext.drewN ?_ _))) HOL.out (by omega) hcap)).over.mono ?_
            rintro e w' ⟨rfl, xw, rfl⟩
            go_wp2_with fail
            go_ret
            exact ⟨rfl, HX.out.trans (by repeat (first | exact Ext.refl _ | refine Ext.alloc ?_ _ | assumption | refine Ext.over ?_ _ | refine Ext.drew ?_ | refine Ext.drewN ?_ _))⟩

end fnSearches
end Go.Proofs.Ytngniniiohgilaa
