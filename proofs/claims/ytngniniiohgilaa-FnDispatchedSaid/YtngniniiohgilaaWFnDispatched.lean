/- The walk of FnDispatched: it returns true. Conditions: its arguments read as lists. (P31) -/
import Derived.Test.YtngniniiohgilaaDrawDispatch
import Derived.Test.YtngniniiohgilaaMFnDispatched
import Derived.Test.YtngniniiohgilaaHall
namespace Go.Proofs.Ytngniniiohgilaa
open Go.RowKit
set_option linter.unusedVariables false
namespace fnDispatched
theorem beg_new {h k : Nat} {o : List Nat} (hb : Beg h o) (hk : k < o.length) : memI ((ci o).take k) (natAt o k : Nat) = false := by
  rw [natAt_eq _ _ hk]
  rcases hm : memI ((ci o).take k) (o[k] : Nat) with _ | _
  · rfl
  · exfalso
    rw [memI_iff] at hm
    unfold ci at hm
    rw [← List.map_take, List.mem_map] at hm
    obtain ⟨x, hx, e⟩ := hm
    have hx' : x = o[k] := by exact_mod_cast e
    obtain ⟨j, hj, hjx⟩ := List.getElem_of_mem hx
    rw [List.length_take] at hj
    rw [List.getElem_take] at hjx
    exact List.pairwise_iff_getElem.1 hb.1 j k (by omega) hk (by omega) (hjx.trans hx')
theorem pick_take {gs : List Int} {L : List Nat} {k : Nat} (hk : k < L.length) : pickL gs (L.take (k + 1)) = pickL gs (L.take k) ++ [atI gs (natAt L k)] := by
  rw [List.take_succ_eq_append_getElem hk, pickL_app, natAt_eq _ _ hk]
set_option maxHeartbeats 1600000 in
set_option maxRecDepth 100000 in
theorem walk (w : World) (A0 : Option Addr) (n0 c0 : Nat) (zs0 : List Int) (hr0 : Row w A0 (zs0.map (Value.int .u8))) (hl0 : zs0.length = n0) (hn0 : n0 ≤ maxLen) (hz0 : ∀ z ∈ zs0, 0 ≤ z ∧ z ≤ 255) : Gives Try.prog 5 #[.slice A0 n0 c0] w (.bool true) := by
  unfold maxLen at hn0
  have HZ := hid hz0
  clear hz0
  by_cases hbig : (1048576 : Int) < n0
  · have hb := decide_eq_true hbig
    (unfold Gives; go_enter Try.func5, Try.ntmps5)
    go_wp2_with (go_at_call 7; refine (gives_b hb (big_any _ _ _ _)).over.mono ?_; rintro e w' ⟨rfl, xw, rfl⟩)
    go_ret
    exact ⟨rfl, by repeat (first | exact Ext.refl _ | refine Ext.alloc ?_ _ | assumption | refine Ext.over ?_ _ | refine Ext.drew ?_ | refine Ext.drewN ?_ _)⟩
  have hb := decide_eq_false hbig
  (unfold Gives; go_enter Try.func5, Try.ntmps5)
  go_wp2_with (go_at_call 7; refine (gives_b hb (big_any _ _ _ _)).over.mono ?_; rintro e w' ⟨rfl, xw, rfl⟩)
  refine (DrawDispatch_any A0 n0 c0 zs0 _ (hr0.ext (by repeat (first | exact Ext.refl _ | refine Ext.alloc ?_ _ | assumption | refine Ext.over ?_ _ | refine Ext.drew ?_ | refine Ext.drewN ?_ _))) hl0 (by omega) HZ.out).mono ?_
  rintro _ w1 ⟨h, m, c, D, l, B, c2, gs, E, r, c3, hs, rfl, hok, ho, hlm, hg5, hgin, hgo, hhr, hr4, hhin, hho, he⟩
  obtain ⟨_, h1, h7, h12⟩ := houseOk_bounds hok
  have h1' : 1 ≤ h := by omega
  have h7' : h ≤ 7 := by omega
  obtain ⟨L, hL⟩ : ∃ L, L = bestDisp h l gs hs := ⟨_, rfl⟩
  obtain ⟨N, hN⟩ : ∃ N, N = dispCost h l gs hs := ⟨_, rfl⟩
  have hspec := bestDisp_spec hok hgin hhin hg5 (by omega)
  rw [← hL, ← hN] at hspec
  obtain ⟨hLb, hLl, hLw, hN0, hN35, hmin⟩ := hspec
  have HSP := hid (And.intro hLb (And.intro hLl (And.intro hLw hmin)))
  have HCD := hid (canD_ok hok hgin hhin hg5 (by omega))
  have HOK := hid hok
  have HDN := hid hN.symm
  have HLE := hid hL
  have HGI := hid hgin
  have HHI := hid hhin
  have HG5 := hid hg5
  have HHR := hid hhr
  have HE := hid (Ext.trans (show Ext w _ by repeat (first | exact Ext.refl _ | refine Ext.alloc ?_ _ | assumption | refine Ext.over ?_ _ | refine Ext.drew ?_ | refine Ext.drewN ?_ _)) he)
  have HL := hid (Row.of_own ho)
  have HG := hid (Row.of_own hgo)
  have HH := hid (Row.of_own hho)
  clear hok ho he hgin hgo hhin hho hg5 hhr hL hN hLb hLl hLw hmin
  go_wp2_with fail
  obtain ⟨wt, hwt⟩ : ∃ wt, wt = w1.alloc (.cells #[.int .i64 ↑h, .slice D m c] 26) := ⟨_, rfl⟩
  have het : Ext w1 wt := by rw [hwt]; repeat (first | exact Ext.refl _ | refine Ext.alloc ?_ _ | assumption | refine Ext.over ?_ _ | refine Ext.drew ?_ | refine Ext.drewN ?_ _)
  have b0 : wt.cell? ⟨w1.heap.size, 0, none⟩ = some (.int .i64 ↑h) := by rw [hwt]; go_simp
  have b1 : wt.cell? ⟨w1.heap.size, 1, none⟩ = some (.slice D m c) := by rw [hwt]; go_simp
  have HT := hid (HE.out.trans het)
  have HLT := hid (HL.out.ext het)
  have HGT := hid (HG.out.ext het)
  have HHT := hid (HH.out.ext het)
  rw [← hwt]
  generalize w1.heap.size = gh at b0 b1 ⊢
  clear hwt het HL HE HG HH
  go_wp2_with fail
  refine (iBestD_any h D m c l B 5 c2 gs E r c3 hs _ (HLT.out.ext (by repeat (first | exact Ext.refl _ | refine Ext.alloc ?_ _ | assumption | refine Ext.over ?_ _ | refine Ext.drew ?_ | refine Ext.drewN ?_ _))) hlm (by omega) (HGT.out.ext (by repeat (first | exact Ext.refl _ | refine Ext.alloc ?_ _ | assumption | refine Ext.over ?_ _ | refine Ext.drew ?_ | refine Ext.drewN ?_ _))) HG5.out (by omega) (HHT.out.ext (by repeat (first | exact Ext.refl _ | refine Ext.alloc ?_ _ | assumption | refine Ext.over ?_ _ | refine Ext.drew ?_ | refine Ext.drewN ?_ _))) HHR.out (by omega) HCD.out).mono ?_
  rintro _ w2 ⟨A2, c2', rfl, ho2, he2⟩
  have hcap2 := own_cap ho2
  have HB2 := hid (show Row w2 A2 ((ci L).map (Value.int .i64)) by rw [HLE.out]; exact Row.of_own ho2)
  have e02 : Ext wt w2 := Ext.trans (by repeat (first | exact Ext.refl _ | refine Ext.alloc ?_ _ | assumption | refine Ext.over ?_ _ | refine Ext.drew ?_ | refine Ext.drewN ?_ _)) he2
  have H2 := hid (HT.out.trans e02)
  have HL2 := hid (HLT.out.ext e02)
  have HG2 := hid (HGT.out.ext e02)
  have HH2 := hid (HHT.out.ext e02)
  have p0 := old_cell e02 b0
  have p1 := old_cell e02 b1
  clear b0 b1 ho2 he2 e02 HT HLT HGT HHT HLE
  go_wp2_with (go_at_call 25; refine (gives_v HDN.out (iDispatch_any h D m c l B 5 c2 gs E r c3 hs _ (HL2.out.ext (by repeat (first | exact Ext.refl _ | refine Ext.alloc ?_ _ | assumption | refine Ext.over ?_ _ | refine Ext.drew ?_ | refine Ext.drewN ?_ _))) hlm (by omega) (HG2.out.ext (by repeat (first | exact Ext.refl _ | refine Ext.alloc ?_ _ | assumption | refine Ext.over ?_ _ | refine Ext.drew ?_ | refine Ext.drewN ?_ _))) HG5.out (by omega) (HH2.out.ext (by repeat (first | exact Ext.refl _ | refine Ext.alloc ?_ _ | assumption | refine Ext.over ?_ _ | refine Ext.drew ?_ | refine Ext.drewN ?_ _))) HHR.out (by omega))).over.mono ?_; rintro e w' ⟨rfl, xw, rfl⟩)
  obtain ⟨wx, hwx⟩ : ∃ wx, wx = ovr w2 xw := ⟨_, rfl⟩
  have HEX := hid (show Ext w2 wx by rw [hwx]; repeat (first | exact Ext.refl _ | refine Ext.alloc ?_ _ | assumption | refine Ext.over ?_ _ | refine Ext.drew ?_ | refine Ext.drewN ?_ _))
  have hO1 := own_ext (own_empty wx wx.heap.size wx.heap.size rfl (Nat.le_refl _) 3 1) (show Ext (wx.alloc (.cells #[] 3)) ((wx.alloc (.cells #[] 3)).alloc (.cells #[] 3)) by repeat (first | exact Ext.refl _ | refine Ext.alloc ?_ _ | assumption | refine Ext.over ?_ _ | refine Ext.drew ?_ | refine Ext.drewN ?_ _))
  have hO2 := own_empty (wx.alloc (.cells #[] 3)) (wx.heap.size + 1) wx.heap.size (by simp) (by simp) 3 1
  have HO1 := hid hO1
  have HO2 := hid hO2
  have hv := atV_bound HZ.out 0
  have HAT := hid (fun (w' : World) (e : Ext w w') => at_any A0 n0 c0 zs0 0 w' (hr0.ext e) hl0 (by omega) (by omega) HZ.out)
  obtain ⟨a, ha⟩ : ∃ a : Nat, atV zs0 0 = a := ⟨(atV zs0 0).toNat, by omega⟩
  have ha255 : a ≤ 255 := by omega
  have q0 := old_cell HEX.out p0
  have q1 := old_cell HEX.out p1
  have HX := hid (H2.out.trans HEX.out)
  have HLX := hid (HL2.out.ext HEX.out)
  have HGX := hid (HG2.out.ext HEX.out)
  have HHX := hid (HH2.out.ext HEX.out)
  have HBX := hid (HB2.out.ext HEX.out)
  have HA := hid ha
  rw [← ovr_size w2 xw, ← hwx]
  clear hwx HEX p0 p1 H2 HL2 HG2 HH2 HB2 hO1 hO2 hv ha
  go_loopw [8, 9, 10] (fun cv ov kv wr => ∃ (k : Nat) (A3 : Option Addr) (c3' : Nat) (A4 : Option Addr) (c4 : Nat), k ≤ r ∧ kv = .int .i64 ↑k ∧ cv = .slice A3 k c3' ∧ ov = .slice A4 k c4 ∧ wr.ownsRow wx.heap.size 3 1 (.slice A3 k c3') k ((pickL gs (L.take k)).map (Value.int .i64)) ∧ wr.ownsRow wx.heap.size 3 1 (.slice A4 k c4) k ((pickL gs (turnL a k)).map (Value.int .i64)) ∧ (∀ j, (Value.slice A3 k c3').ownBlock = some j → (Value.slice A4 k c4).ownBlock ≠ some j) ∧ Ext wx wr) (fun _ _ kv _ => r - (intOf kv).toNat)
  case atStart => exact ⟨0, _, _, _, _, by omega, rfl, rfl, rfl, HO1.out, HO2.out, (fun j h1 h2 => by simp [Value.ownBlock] at h1 h2; omega), by repeat (first | exact Ext.refl _ | refine Ext.alloc ?_ _ | assumption | refine Ext.over ?_ _ | refine Ext.drew ?_ | refine Ext.drewN ?_ _)⟩
  case round =>
    clear HO1 HO2
    obtain ⟨k, A3, c3', A4, c4, hk, rfl, rfl, rfl, ho3, ho4, hne, he⟩ := hrel
    have HO3 := hid ho3
    have HO4 := hid ho4
    have HNE := hid hne
    have HE := hid he
    have b0 := old_cell he q0
    have b1 := old_cell he q1
    clear ho3 ho4 hne he
    by_cases hlt : k < r
    · have hkL : k < L.length := by have := HSP.out.2.1; have := HHR.out; omega
      obtain ⟨x, hx⟩ : ∃ x, x = natAt L k := ⟨_, rfl⟩
      have hx5 : x < 5 := by rw [hx]; have := natAt_lt HSP.out.1 hkL; have := HG5.out; omega
      have HM := hid (show memI ((ci L).take k) (x : Int) = false by rw [hx]; exact beg_new HSP.out.1 hkL)
      have HPT := hid (show pickL gs (L.take (k + 1)) = pickL gs (L.take k) ++ [atI gs x] by rw [hx]; exact pick_take hkL)
      have HBW := hid (HBX.out.ext HE.out)
      obtain ⟨bb, boff, hBB, hbc⟩ := HBW.out.ints (i := k) (by rw [ci_len]; exact hkL)
      have cL := hbc k (by rw [ci_len]; exact hkL)
      rw [ci_at hkL, ← natAt_eq _ _ hkL, ← hx] at cL
      obtain ⟨gb, goff, hGB, hgc⟩ := (HGX.out.ext HE.out).ints (i := x) (by rw [HG5.out]; exact hx5)
      have cG := hgc x (by rw [HG5.out]; exact hx5)
      obtain ⟨y, hy⟩ : ∃ y, y = (k + a) % 5 := ⟨_, rfl⟩
      have hy5 : y < 5 := by omega
      have hym : ((k : Int) + a).tmod 5 = (y : Int) := by rw [Int.tmod_eq_emod_of_nonneg (by omega)]; omega
      have cY := hgc y (by rw [HG5.out]; exact hy5)
      have HY := hid hy
      subst hBB hGB
      have HTL := hid (show ((ci L).take k).length = k by rw [List.length_take, ci_len]; omega)
      clear hbc hgc hx hy
      obtain ⟨xi, hxi⟩ : ∃ xi : Int, xi = x := ⟨_, rfl⟩
      have g1 : decide (xi < 0) = false := decide_eq_false (by omega)
      have g2 : decide (5 ≤ xi) = false := decide_eq_false (by omega)
      rw [← hxi] at cL HM
      have HXI := hid hxi
      clear hxi
      go_wp2_with fail
      (refine wp_region_calm (by kernel_rfl) (by kernel_rfl) ?_; (repeat (go_big_quiet_step ((go_at_call 13; exact (gives_b HM.out (has_any _ _ _ ((ci L).take k) _ _ ((HBW.out.ext (by repeat (first | exact Ext.refl _ | refine Ext.alloc ?_ _ | assumption | refine Ext.over ?_ _ | refine Ext.drew ?_ | refine Ext.drewN ?_ _))).take k) HTL.out (by omega))).calm)))); refine wpQuiet_nil ?_; rintro w1 ⟨x1, rfl⟩)
      have hxi := HXI.out
      subst hxi
      go_wp2_with (at_builtin; refine wpList_pushN rfl (.tmp 73) (.tmp 81) 31 rfl 3 Try.underlying31 info_int rfl (by decide) wx.heap.size _ k _ _ rfl wr HO3.out (by repeat (first | exact Ext.refl _ | refine Ext.alloc ?_ _ | assumption | refine Ext.over ?_ _ | refine Ext.drew ?_ | refine Ext.drewN ?_ _)) HE.out.size _ 1 1 [.int .i64 (atI gs x)] rfl rfl (lit_cells _ _ (by first | (simp; done) | simp [ovr_size]) _ _) (by intro u hu; simp at hu; subst hu; rfl) (by decide) (by omega) (by decide) ?_)
      intro A5 c5 w5 hown5 hg5 hb5
      have HO5 := hid (show w5.ownsRow wx.heap.size 3 1 (.slice A5 (k + 1) c5) (k + 1) ((pickL gs (L.take (k + 1))).map (Value.int .i64)) by rw [HPT.out, List.map_append]; exact hown5)
      have HE5 := hid (grown_ext HE.out HO3.out (Nat.le_refl _) hg5)
      have HO4' := hid (HO4.out.kept hg5 (by
        cases e : (Value.slice A4 k c4).ownBlock with
        | none => exact .inl rfl
        | some j => exact .inr fun e' => HNE.out j e'.symm e))
      have HNE5 := hid (show ∀ j, (Value.slice A5 (k + 1) c5).ownBlock = some j → (Value.slice A4 k c4).ownBlock ≠ some j from fun j e1 e2 => by
        rcases hb5 j e1 with h5 | h5
        · exact HNE.out j h5 e2
        · have := (HO4.out.lt j e2).2; omega)
      have hGW := HGX.out.ext HE5.out
      obtain ⟨gb', goff', hGB, hgc'⟩ := hGW.ints (i := y) (by rw [HG5.out]; exact hy5)
      have hgb' : gb' = gb ∧ goff' = goff := by injection hGB with h5; injection h5 with h6 h7; exact ⟨h6.symm, h7.symm⟩
      obtain ⟨rfl, rfl⟩ := hgb'
      have cY5 := hgc' y (by rw [HG5.out]; exact hy5)
      have HAX := hid (gives_v HA.out (HAT.out (ovr w5 w5) (by rw [ovr_self]; exact HX.out.trans HE5.out)))
      clear hown5 hg5 hb5 cL cG cY b0 b1 hGB hgc' hGW HO3 HO4 HNE
      go_wp2_with (first | (go_at_call 9; refine (gives_v HA.out (HAT.out _ (HX.out.trans (HE5.out.trans (by repeat (first | exact Ext.refl _ | refine Ext.alloc ?_ _ | assumption | refine Ext.over ?_ _ | refine Ext.drew ?_ | refine Ext.drewN ?_ _)))))).over.mono ?_; rintro e w' ⟨rfl, xw, rfl⟩) | (at_builtin; refine wpList_pushN rfl (.tmp 83) (.tmp 92) 31 rfl 3 Try.underlying31 info_int rfl (by decide) wx.heap.size _ k _ _ rfl w5 HO4'.out (by repeat (first | exact Ext.refl _ | refine Ext.alloc ?_ _ | assumption | refine Ext.over ?_ _ | refine Ext.drew ?_ | refine Ext.drewN ?_ _)) HE5.out.size _ 1 1 [.int .i64 (atI gs y)] rfl rfl (lit_cells _ _ (by first | (simp; done) | simp [ovr_size]) _ _) (by intro u hu; simp at hu; subst hu; rfl) (by decide) (by omega) (by decide) ?_))
      intro A6 c6 w6 hown6 hg6 hb6
      have HO6 := hid (show w6.ownsRow wx.heap.size 3 1 (.slice A6 (k + 1) c6) (k + 1) ((pickL gs (turnL a (k + 1))).map (Value.int .i64)) by rw [turnL_succ, pickL_app, List.map_append, ← HY.out]; exact hown6)
      have HE6 := hid (grown_ext HE5.out HO4'.out (Nat.le_refl _) hg6)
      have HO5' := hid (HO5.out.kept hg6 (by
        cases e : (Value.slice A5 (k + 1) c5).ownBlock with
        | none => exact .inl rfl
        | some j => exact .inr fun e' => HNE5.out j e e'.symm))
      have HNE6 := hid (show ∀ j, (Value.slice A5 (k + 1) c5).ownBlock = some j → (Value.slice A6 (k + 1) c6).ownBlock ≠ some j from fun j e1 e2 => by
        rcases hb6 j e2 with h5 | h5
        · exact HNE5.out j e1 h5
        · have := (HO5.out.lt j e1).2; omega)
      clear hown6 hg6 hb6 cY5 HO5 HO4' HNE5
      go_wp2_with fail
      go_roundw
      case rel => exact ⟨k + 1, A5, c5, A6, c6, by omega, by go_num, rfl, rfl, own_ext HO5'.out (by repeat (first | exact Ext.refl _ | refine Ext.alloc ?_ _ | assumption | refine Ext.over ?_ _ | refine Ext.drew ?_ | refine Ext.drewN ?_ _)), own_ext HO6.out (by repeat (first | exact Ext.refl _ | refine Ext.alloc ?_ _ | assumption | refine Ext.over ?_ _ | refine Ext.drew ?_ | refine Ext.drewN ?_ _)), HNE6.out, HE6.out.trans (by repeat (first | exact Ext.refl _ | refine Ext.alloc ?_ _ | assumption | refine Ext.over ?_ _ | refine Ext.drew ?_ | refine Ext.drewN ?_ _))⟩
      case measure => simp [intOf]; omega
    · obtain rfl : k = r := by omega
      have HXW := hid (HX.out.trans HE.out)
      have HLW := hid (HLX.out.ext HE.out)
      have HGW := hid (HGX.out.ext HE.out)
      have HHW := hid (HHX.out.ext HE.out)
      have HR3 := hid (Row.of_own HO3.out)
      have HR4 := hid (Row.of_own HO4.out)
      have hsp := HSP.out
      have hLl : L.length = k := by have := HHR.out; omega
      have HLT := hid (show L.take k = L by rw [← hLl]; exact List.take_length)
      have HC3 := hid (show wayCost h l (pickL gs (L.take k)) hs = N by rw [HLT.out]; exact hsp.2.2.1)
      have HN4 := hid (show N ≤ wayCost h l (pickL gs (turnL a k)) hs from hsp.2.2.2 _ (by rw [HG5.out]; exact turnL_beg (by omega)) (by rw [turnL_len, HHR.out]))
      have HP3 := hid (show (pickL gs (L.take k)).length = k by rw [HLT.out, pickL_len, hLl])
      have HP4 := hid (show (pickL gs (turnL a k)).length = k by rw [pickL_len, turnL_len])
      have h3c := own_cap HO3.out
      clear hsp HO3 HO4 HNE HE HX HLX HGX HHX q0 q1
      obtain ⟨M, hM⟩ : ∃ M, M = wayCost h l (pickL gs (turnL a k)) hs := ⟨_, rfl⟩
      have HM := hid hM.symm
      have hNM : N ≤ M := by rw [hM]; exact HN4.out
      clear hM
      have hv1 := atV_bound HZ.out 1
      have HAT1 := hid (fun (w' : World) (e : Ext w w') => at_any A0 n0 c0 zs0 1 w' (hr0.ext e) hl0 (by omega) (by omega) HZ.out)
      obtain ⟨to, hto⟩ : ∃ to : Nat, atV zs0 1 % (h : Int) = to := ⟨(atV zs0 1 % (h : Int)).toNat, by have := Int.emod_nonneg (atV zs0 1) (show (h : Int) ≠ 0 by omega); omega⟩
      have hth : to < h := by have := Int.emod_lt_of_pos (atV zs0 1) (show (0 : Int) < h by omega); omega
      have htm : (atV zs0 1).tmod (h : Int) = (to : Int) := by rw [Int.tmod_eq_emod_of_nonneg hv1.1]; exact hto
      generalize atV zs0 1 = v1 at HAT1 hv1 hto htm
      obtain ⟨g, hg, hg5, hgm⟩ := near_spec HOK.out HGI.out HG5.out hth
      have HNG := hid hg
      have HMIN := hid hgm
      have HAT1' := HAT1
      clear hto hg hgm HAT HA HAT1
      go_wp2_with fail
      refine (gives_v HC3.out (iWayCost_any h D m c l A3 k c3' (pickL gs (L.take k)) E k c3 hs _ (HLW.out.ext (by repeat (first | exact Ext.refl _ | refine Ext.alloc ?_ _ | assumption | refine Ext.over ?_ _ | refine Ext.drew ?_ | refine Ext.drewN ?_ _))) hlm (by omega) (HR3.out.ext (by repeat (first | exact Ext.refl _ | refine Ext.alloc ?_ _ | assumption | refine Ext.over ?_ _ | refine Ext.drew ?_ | refine Ext.drewN ?_ _))) HP3.out (by omega) (HHW.out.ext (by repeat (first | exact Ext.refl _ | refine Ext.alloc ?_ _ | assumption | refine Ext.over ?_ _ | refine Ext.drew ?_ | refine Ext.drewN ?_ _))) HHR.out (by omega))).over.mono ?_
      rintro e w' ⟨rfl, xw1, rfl⟩
      go_wp2_with fail
      refine (gives_v HM.out (iWayCost_any h D m c l A4 k c4 (pickL gs (turnL a k)) E k c3 hs _ (HLW.out.ext (by repeat (first | exact Ext.refl _ | refine Ext.alloc ?_ _ | assumption | refine Ext.over ?_ _ | refine Ext.drew ?_ | refine Ext.drewN ?_ _))) hlm (by omega) (HR4.out.ext (by repeat (first | exact Ext.refl _ | refine Ext.alloc ?_ _ | assumption | refine Ext.over ?_ _ | refine Ext.drew ?_ | refine Ext.drewN ?_ _))) HP4.out (by omega) (HHW.out.ext (by repeat (first | exact Ext.refl _ | refine Ext.alloc ?_ _ | assumption | refine Ext.over ?_ _ | refine Ext.drew ?_ | refine Ext.drewN ?_ _))) HHR.out (by omega))).over.mono ?_
      rintro e w' ⟨rfl, xw2, rfl⟩
      go_wp2_with fail
      (refine wp_region_calm (by kernel_rfl) (by kernel_rfl) ?_; (repeat (go_big_quiet_step ((go_at_call 9; exact (HAT1'.out _ (HXW.out.trans (by repeat (first | exact Ext.refl _ | refine Ext.alloc ?_ _ | assumption | refine Ext.over ?_ _ | refine Ext.drew ?_ | refine Ext.drewN ?_ _)))).calm)))); refine wpQuiet_nil ?_; rintro w1 ⟨x1, rfl⟩)
      go_wp2_with (go_at_call 27; refine (gives_v HNG.out (iNear_any h D m c l B 5 c2 gs to _ (HLW.out.ext (by repeat (first | exact Ext.refl _ | refine Ext.alloc ?_ _ | assumption | refine Ext.over ?_ _ | refine Ext.drew ?_ | refine Ext.drewN ?_ _))) hlm (by omega) (HGW.out.ext (by repeat (first | exact Ext.refl _ | refine Ext.alloc ?_ _ | assumption | refine Ext.over ?_ _ | refine Ext.drew ?_ | refine Ext.drewN ?_ _))) HG5.out (by omega))).over.mono ?_; rintro e w' ⟨rfl, xw, rfl⟩)
      have hgi := HGI.out g (by rw [HG5.out]; exact hg5)
      obtain ⟨u, hu⟩ : ∃ u : Nat, atI gs g = u := ⟨(atI gs g).toNat, by omega⟩
      have huh : u < h := by omega
      have HU := hid hu
      rw [hu] at hgi
      have HMU := hid (show ∀ j, j < 5 → decide (hallDist h l (atI gs j) to < hallDist h l u to) = false from fun j hj => by
        have := HMIN.out j hj
        rw [HU.out] at this
        exact decide_eq_false (by omega))
      obtain ⟨wy, hwy⟩ : ∃ wy, wy = ovr (ovr (ovr (ovr wr xw1) xw2) x1) xw := ⟨_, rfl⟩
      have HEY := hid (show Ext wr wy by rw [hwy]; repeat (first | exact Ext.refl _ | refine Ext.alloc ?_ _ | assumption | refine Ext.over ?_ _ | refine Ext.drew ?_ | refine Ext.drewN ?_ _))
      have p0 := old_cell HEY.out b0
      have p1 := old_cell HEY.out b1
      have HXY := hid (HXW.out.trans HEY.out)
      have HLY := hid (HLW.out.ext HEY.out)
      have HGY := hid (HGW.out.ext HEY.out)
      have HSG := hid (step_spec (l := l) HOK.out huh hth)
      try rw [← hwy]
      clear hwy b0 b1 HEY HXW HLW HGW HHW HR3 HR4 HMIN hu
      go_loopw [13] (fun kv wr => ∃ (j : Nat), j ≤ 5 ∧ kv = .int .i64 ↑j ∧ Ext wy wr) (fun kv _ => 5 - (intOf kv).toNat)
      case atStart => exact ⟨0, by omega, rfl, by repeat (first | exact Ext.refl _ | refine Ext.alloc ?_ _ | assumption | refine Ext.over ?_ _ | refine Ext.drew ?_ | refine Ext.drewN ?_ _)⟩
      case round =>
        obtain ⟨j, hj, rfl, he⟩ := hrel
        rename World => wo
        have HE := hid he
        have b0 := old_cell he p0
        have b1 := old_cell he p1
        have HLZ := hid (HLY.out.ext he)
        obtain ⟨gb, goff, hGB, hgc⟩ := (HGY.out.ext he).ints (i := g) (by rw [HG5.out]; exact hg5)
        have cG := hgc g (by rw [HG5.out]; exact hg5)
        rw [HU.out] at cG
        subst hGB
        clear he
        by_cases hlt : j < 5
        · have cJ := hgc j (by rw [HG5.out]; exact hlt)
          have g1 := HMU.out j hlt
          clear hgc
          go_wp2_with fail
          (refine wp_region_calm (by kernel_rfl) (by kernel_rfl) ?_; (repeat (go_big_quiet_step ((go_at_call 28; exact (sHallDistance_any _ _ _ _ l _ _ _ (HLZ.out.ext (by repeat (first | exact Ext.refl _ | refine Ext.alloc ?_ _ | assumption | refine Ext.over ?_ _ | refine Ext.drew ?_ | refine Ext.drewN ?_ _))) hlm (by omega)).calm)))); refine wpQuiet_nil ?_; rintro w1 ⟨x1, rfl⟩)
          go_wp2_with fail
          go_roundw
          case rel => exact ⟨j + 1, by omega, by go_num, HE.out.trans (by repeat (first | exact Ext.refl _ | refine Ext.alloc ?_ _ | assumption | refine Ext.over ?_ _ | refine Ext.drew ?_ | refine Ext.drewN ?_ _))⟩
          case measure => simp [intOf]; omega
        · obtain rfl : j = 5 := by omega
          have HEZ := hid (HXY.out.trans HE.out)
          clear hgc HE
          rcases HSG.out with ⟨d0, s0⟩ | ⟨dp, s, hs, s0, sd, sh⟩
          · have D0 := hid d0
            have S0 := hid s0
            clear d0 s0
            go_wp2_with fail
            (refine wp_region_calm (by kernel_rfl) (by kernel_rfl) ?_; (repeat (go_big_quiet_step ((go_at_call 29; exact (gives_v S0.out (iStep_any _ _ _ _ l _ _ _ (HLZ.out.ext (by repeat (first | exact Ext.refl _ | refine Ext.alloc ?_ _ | assumption | refine Ext.over ?_ _ | refine Ext.drew ?_ | refine Ext.drewN ?_ _))) hlm (by omega))).calm)))); refine wpQuiet_nil ?_; rintro w1 ⟨x1, rfl⟩)
            go_wp2_with fail
            (refine wp_region_calm (by kernel_rfl) (by kernel_rfl) ?_; (repeat (go_big_quiet_step ((go_at_call 28; exact (gives_v D0.out (sHallDistance_any _ _ _ _ l _ _ _ (HLZ.out.ext (by repeat (first | exact Ext.refl _ | refine Ext.alloc ?_ _ | assumption | refine Ext.over ?_ _ | refine Ext.drew ?_ | refine Ext.drewN ?_ _))) hlm (by omega))).calm)))); refine wpQuiet_nil ?_; rintro w1 ⟨x1, rfl⟩)
            go_wp2_with fail
            (refine wp_region_calm (by kernel_rfl) (by kernel_rfl) ?_; (repeat (go_big_quiet_step (fail))); refine wpQuiet_nil ?_; rintro w1 ⟨x1, rfl⟩)
            go_wp2_with fail
            go_ret
            exact ⟨rfl, HEZ.out.trans (by repeat (first | exact Ext.refl _ | refine Ext.alloc ?_ _ | assumption | refine Ext.over ?_ _ | refine Ext.drew ?_ | refine Ext.drewN ?_ _))⟩
          · obtain ⟨dv, hdv⟩ : ∃ dv : Int, hallDist h l u to = dv := ⟨_, rfl⟩
            rw [hdv] at dp sd
            have hb := hallDist_bound h l u to
            rw [hdv] at hb
            have D0 := hid hdv
            have S0 := hid s0
            have SD := hid sd
            have SH := hid sh
            have z0 : (dv == 0) = false := by rw [beq_eq_false_iff_ne]; omega
            have gw : IntKind.i64.wrap (dv - 1) = dv - 1 := IntWalk.i64_in _ (by omega)
            have zp : decide (0 < dv) = true := decide_eq_true dp
            clear hdv s0 sd sh
            go_wp2_with fail
            (refine wp_region_calm (by kernel_rfl) (by kernel_rfl) ?_; (repeat (go_big_quiet_step ((go_at_call 29; exact (gives_v S0.out (iStep_any _ _ _ _ l _ _ _ (HLZ.out.ext (by repeat (first | exact Ext.refl _ | refine Ext.alloc ?_ _ | assumption | refine Ext.over ?_ _ | refine Ext.drew ?_ | refine Ext.drewN ?_ _))) hlm (by omega))).calm)))); refine wpQuiet_nil ?_; rintro w1 ⟨x1, rfl⟩)
            go_wp2_with fail
            (refine wp_region_calm (by kernel_rfl) (by kernel_rfl) ?_; (repeat (go_big_quiet_step ((go_at_call 28; exact (gives_v D0.out (sHallDistance_any _ _ _ _ l _ _ _ (HLZ.out.ext (by repeat (first | exact Ext.refl _ | refine Ext.alloc ?_ _ | assumption | refine Ext.over ?_ _ | refine Ext.drew ?_ | refine Ext.drewN ?_ _))) hlm (by omega))).calm)))); refine wpQuiet_nil ?_; rintro w1 ⟨x1, rfl⟩)
            go_wp2_with fail
            (refine wp_region_calm (by kernel_rfl) (by kernel_rfl) ?_; (repeat (go_big_quiet_step (first | (go_at_call 28; exact (gives_v SD.out (sHallDistance_any _ _ _ _ l _ _ _ (HLZ.out.ext (by repeat (first | exact Ext.refl _ | refine Ext.alloc ?_ _ | assumption | refine Ext.over ?_ _ | refine Ext.drew ?_ | refine Ext.drewN ?_ _))) hlm (by omega))).calm) | (go_at_call 30; exact (gives_b SH.out (sHasDoor_any _ _ _ _ l _ _ _ (HLZ.out.ext (by repeat (first | exact Ext.refl _ | refine Ext.alloc ?_ _ | assumption | refine Ext.over ?_ _ | refine Ext.drew ?_ | refine Ext.drewN ?_ _))) hlm (by omega))).calm)))); refine wpQuiet_nil ?_; rintro w1 ⟨x1, rfl⟩)
            go_wp2_with fail
            go_ret
            exact ⟨rfl, HEZ.out.trans (by repeat (first | exact Ext.refl _ | refine Ext.alloc ?_ _ | assumption | refine Ext.over ?_ _ | refine Ext.drew ?_ | refine Ext.drewN ?_ _))⟩

end fnDispatched
end Go.Proofs.Ytngniniiohgilaa
