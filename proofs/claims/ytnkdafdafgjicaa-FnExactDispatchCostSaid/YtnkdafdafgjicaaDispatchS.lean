/- Walks: DispatchCost of the reference. Conditions: sizes. -/
import Derived.Test.YtnkdafdafgjicaaDispS
namespace Go.Proofs.Ytnkdafdafgjicaa
open Go.RowKit
set_option linter.unusedVariables false

theorem left_any (h : Nat) (A : Option Addr) (c : Nat) (l : List T2) (gs hs : List Int) (GA : Option Addr) (gc : Nat) (hk : houseOk h l = true) (hg : InH h gs) (hh : InH h hs) (hG5 : gs.length ≤ 5) (hmG : hs.length ≤ gs.length) : ∀ r, LeftAt l h A c gs hs GA gc r
  | 0 => left_zero h A c l gs hs GA gc
  | r + 1 => left_next h A c l gs hs GA gc hk hg hh hG5 hmG r (left_any h A c l gs hs GA gc hk hg hh hG5 hmG r)
set_option maxRecDepth 100000 in
set_option maxHeartbeats 1600000 in
theorem l31Valid_any (h : Int) (A : Option Addr) (n c : Nat) (l : List T2) (GA : Option Addr) (gn gc : Nat) (gs : List Int) (HA : Option Addr) (hn hc : Nat) (hs : List Int) (w : World) (hl : Row w A (l.flatMap T2.v)) (hnl : l.length = n) (hx : n ≤ 1048577)
    (hgr : Row w GA (gs.map (Value.int .i64))) (hgn : gs.length = gn) (hgx : gn ≤ 1048577) (hhr : Row w HA (hs.map (Value.int .i64))) (hhn : hs.length = hn) (hhx : hn ≤ 1048577) :
    Gives Try.prog 56 #[.agg #[.int .i64 h, .slice A n c], .slice GA gn gc, .slice HA hn hc] w (.bool (canD h l gs hs)) := by
  subst hnl hgn hhn
  have HL := hid hl
  have HG := hid hgr
  have HH := hid hhr
  clear hl hgr hhr
  cases h3 : halls h l gs
  · have HB := hid (show canD h l gs hs = false by unfold canD; rw [h3]; simp)
    (unfold Gives; go_enter Try.func56, Try.ntmps56)
    go_wp2_with (go_at_call 30; refine (gives_b h3 (shalls_any _ _ _ _ l _ _ _ gs _ (HL.out.ext (by repeat (first | exact Ext.refl _ | refine Ext.alloc ?_ _ | assumption | refine Ext.over ?_ _ | refine Ext.drew ?_ | refine Ext.drewN ?_ _))) rfl hx (HG.out.ext (by repeat (first | exact Ext.refl _ | refine Ext.alloc ?_ _ | assumption | refine Ext.over ?_ _ | refine Ext.drew ?_ | refine Ext.drewN ?_ _))) rfl hgx)).over.mono ?_; rintro e w' ⟨rfl, xw, rfl⟩)
    go_ret
    exact ⟨by rw [HB.out]; rfl, by repeat (first | exact Ext.refl _ | refine Ext.alloc ?_ _ | assumption | refine Ext.over ?_ _ | refine Ext.drew ?_ | refine Ext.drewN ?_ _)⟩
  cases h4 : halls h l hs
  · have HB := hid (show canD h l gs hs = false by unfold canD; rw [h4]; simp)
    (unfold Gives; go_enter Try.func56, Try.ntmps56)
    go_wp2_with fail
    refine ((gives_b h3 (shalls_any _ _ _ _ l _ _ _ gs _ (HL.out.ext (by repeat (first | exact Ext.refl _ | refine Ext.alloc ?_ _ | assumption | refine Ext.over ?_ _ | refine Ext.drew ?_ | refine Ext.drewN ?_ _))) rfl hx (HG.out.ext (by repeat (first | exact Ext.refl _ | refine Ext.alloc ?_ _ | assumption | refine Ext.over ?_ _ | refine Ext.drew ?_ | refine Ext.drewN ?_ _))) rfl hgx)).over).mono ?_
    rintro e w' ⟨rfl, xw, rfl⟩
    go_wp2_with fail
    refine ((gives_b h4 (shalls_any _ _ _ _ l _ _ _ hs _ (HL.out.ext (by repeat (first | exact Ext.refl _ | refine Ext.alloc ?_ _ | assumption | refine Ext.over ?_ _ | refine Ext.drew ?_ | refine Ext.drewN ?_ _))) rfl hx (HH.out.ext (by repeat (first | exact Ext.refl _ | refine Ext.alloc ?_ _ | assumption | refine Ext.over ?_ _ | refine Ext.drew ?_ | refine Ext.drewN ?_ _))) rfl hhx)).over).mono ?_
    rintro e w' ⟨rfl, xw, rfl⟩
    go_wp2_with fail
    go_ret
    exact ⟨by rw [HB.out]; rfl, by repeat (first | exact Ext.refl _ | refine Ext.alloc ?_ _ | assumption | refine Ext.over ?_ _ | refine Ext.drew ?_ | refine Ext.drewN ?_ _)⟩
  by_cases h1 : (hs.length : Int) ≤ gs.length
  rotate_left
  · have HB := hid (show canD h l gs hs = false by unfold canD; rw [decide_eq_false (show ¬ hs.length ≤ gs.length by omega)]; rfl)
    (unfold Gives; go_enter Try.func56, Try.ntmps56)
    go_wp2_with fail
    refine ((gives_b h3 (shalls_any _ _ _ _ l _ _ _ gs _ (HL.out.ext (by repeat (first | exact Ext.refl _ | refine Ext.alloc ?_ _ | assumption | refine Ext.over ?_ _ | refine Ext.drew ?_ | refine Ext.drewN ?_ _))) rfl hx (HG.out.ext (by repeat (first | exact Ext.refl _ | refine Ext.alloc ?_ _ | assumption | refine Ext.over ?_ _ | refine Ext.drew ?_ | refine Ext.drewN ?_ _))) rfl hgx)).over).mono ?_
    rintro e w' ⟨rfl, xw, rfl⟩
    go_wp2_with fail
    refine ((gives_b h4 (shalls_any _ _ _ _ l _ _ _ hs _ (HL.out.ext (by repeat (first | exact Ext.refl _ | refine Ext.alloc ?_ _ | assumption | refine Ext.over ?_ _ | refine Ext.drew ?_ | refine Ext.drewN ?_ _))) rfl hx (HH.out.ext (by repeat (first | exact Ext.refl _ | refine Ext.alloc ?_ _ | assumption | refine Ext.over ?_ _ | refine Ext.drew ?_ | refine Ext.drewN ?_ _))) rfl hhx)).over).mono ?_
    rintro e w' ⟨rfl, xw, rfl⟩
    go_wp2_with fail
    go_ret
    exact ⟨by rw [HB.out]; rfl, by repeat (first | exact Ext.refl _ | refine Ext.alloc ?_ _ | assumption | refine Ext.over ?_ _ | refine Ext.drew ?_ | refine Ext.drewN ?_ _)⟩
  by_cases h2 : (gs.length : Int) ≤ 5
  all_goals
    have HB := hid (show canD h l gs hs = decide ((gs.length : Int) ≤ 5) by
      unfold canD; rw [decide_eq_true (show hs.length ≤ gs.length by omega), h3, h4]
      rw [Bool.eq_iff_iff]; simp; try omega)
    have h2' := hid h2
    (unfold Gives; go_enter Try.func56, Try.ntmps56)
    go_wp2_with fail
    refine ((gives_b h3 (shalls_any _ _ _ _ l _ _ _ gs _ (HL.out.ext (by repeat (first | exact Ext.refl _ | refine Ext.alloc ?_ _ | assumption | refine Ext.over ?_ _ | refine Ext.drew ?_ | refine Ext.drewN ?_ _))) rfl hx (HG.out.ext (by repeat (first | exact Ext.refl _ | refine Ext.alloc ?_ _ | assumption | refine Ext.over ?_ _ | refine Ext.drew ?_ | refine Ext.drewN ?_ _))) rfl hgx)).over).mono ?_
    rintro e w' ⟨rfl, xw, rfl⟩
    go_wp2_with fail
    refine ((gives_b h4 (shalls_any _ _ _ _ l _ _ _ hs _ (HL.out.ext (by repeat (first | exact Ext.refl _ | refine Ext.alloc ?_ _ | assumption | refine Ext.over ?_ _ | refine Ext.drew ?_ | refine Ext.drewN ?_ _))) rfl hx (HH.out.ext (by repeat (first | exact Ext.refl _ | refine Ext.alloc ?_ _ | assumption | refine Ext.over ?_ _ | refine Ext.drew ?_ | refine Ext.drewN ?_ _))) rfl hhx)).over).mono ?_
    rintro e w' ⟨rfl, xw, rfl⟩
    go_wp2_with fail
    go_ret
    exact ⟨by rw [HB.out]; first | rfl | (rw [decide_eq_true h2'.out]; rfl) | (rw [decide_eq_false h2'.out]; rfl), by repeat (first | exact Ext.refl _ | refine Ext.alloc ?_ _ | assumption | refine Ext.over ?_ _ | refine Ext.drew ?_ | refine Ext.drewN ?_ _)⟩
set_option maxRecDepth 100000 in
set_option maxHeartbeats 1600000 in
theorem sDispatch_any (h : Int) (A : Option Addr) (n c : Nat) (l : List T2) (GA : Option Addr) (gn gc : Nat) (gs : List Int) (HA : Option Addr) (hn hc : Nat) (hs : List Int) (w : World) (hl : Row w A (l.flatMap T2.v)) (hnl : l.length = n) (hx : n ≤ 1048577)
    (hgr : Row w GA (gs.map (Value.int .i64))) (hgn : gs.length = gn) (hgx : gn ≤ 1048577) (hhr : Row w HA (hs.map (Value.int .i64))) (hhn : hs.length = hn) (hhx : hn ≤ 1048577) (hcap : hn ≤ hc) :
    Gives Try.prog 27 #[.agg #[.int .i64 h, .slice A n c], .slice GA gn gc, .slice HA hn hc] w (.int .i64 (dispCost h l gs hs)) := by
  subst hnl hgn hhn
  by_cases h0 : hs.length = 0
  · have HB := hid (dispCost_none (h := h) (l := l) (gs := gs) h0)
    (unfold Gives; go_enter Try.func27, Try.ntmps27)
    go_wp2_with fail
    go_ret
    exact ⟨by rw [HB.out]; rfl, by repeat (first | exact Ext.refl _ | refine Ext.alloc ?_ _ | assumption | refine Ext.over ?_ _ | refine Ext.drew ?_ | refine Ext.drewN ?_ _)⟩
  have hne : ((hs.length : Int) == 0) = false := by rw [beq_eq_false_iff_ne]; omega
  cases hc' : canD h l gs hs
  · have HB := hid (dispCost_no h0 hc')
    (unfold Gives; go_enter Try.func27, Try.ntmps27)
    go_wp2_with (go_at_call 56; refine (gives_b hc' (l31Valid_any _ _ _ _ l _ _ _ gs _ _ _ hs _ (hl.ext (by repeat (first | exact Ext.refl _ | refine Ext.alloc ?_ _ | assumption | refine Ext.over ?_ _ | refine Ext.drew ?_ | refine Ext.drewN ?_ _))) rfl hx (hgr.ext (by repeat (first | exact Ext.refl _ | refine Ext.alloc ?_ _ | assumption | refine Ext.over ?_ _ | refine Ext.drew ?_ | refine Ext.drewN ?_ _))) rfl hgx (hhr.ext (by repeat (first | exact Ext.refl _ | refine Ext.alloc ?_ _ | assumption | refine Ext.over ?_ _ | refine Ext.drew ?_ | refine Ext.drewN ?_ _))) rfl hhx)).over.mono ?_; rintro e w' ⟨rfl, xw, rfl⟩)
    go_ret
    exact ⟨by rw [HB.out]; rfl, by repeat (first | exact Ext.refl _ | refine Ext.alloc ?_ _ | assumption | refine Ext.over ?_ _ | refine Ext.drew ?_ | refine Ext.drewN ?_ _)⟩
  have hB := dispCost_yes h0 hc'
  obtain ⟨hmG, hG5, hg, hh⟩ := canD_iff.1 hc'
  have hk := (halls_iff.1 hg).1
  obtain ⟨hd, h1, h7, h12⟩ := houseOk_bounds hk
  obtain ⟨h, rfl⟩ : ∃ k : Nat, h = k := ⟨h.toNat, by omega⟩
  have HDI := hid (left_any h A c l gs hs GA gc hk (halls_in hg) (halls_in hh) hG5 hmG hs.length)
  have HB := hid (show dispCost h l gs hs = (resL (left (dd h l gs hs) gs.length hs.length 0 0)).2 by
    obtain ⟨x, hx, hd⟩ := disp_left (D := dd h l gs hs) (G := gs.length) hs.length [] ⟨List.nodup_nil, by simp⟩ (by simpa using hmG)
    rw [setN_nil] at hx
    have hx' : left (dd h l gs hs) gs.length hs.length 0 0 = some x := hx
    rw [hB, Int.toNat_natCast, hd, hx']
    show 0 + x.2 = x.2
    omega)
  have HC := hid hc'
  clear hd hc' hg hh hk hB
  (unfold Gives; go_enter Try.func27, Try.ntmps27)
  go_wp2_with (go_at_call 56; refine (gives_b HC.out (l31Valid_any _ _ _ _ l _ _ _ gs _ _ _ hs _ (hl.ext (by repeat (first | exact Ext.refl _ | refine Ext.alloc ?_ _ | assumption | refine Ext.over ?_ _ | refine Ext.drew ?_ | refine Ext.drewN ?_ _))) rfl hx (hgr.ext (by repeat (first | exact Ext.refl _ | refine Ext.alloc ?_ _ | assumption | refine Ext.over ?_ _ | refine Ext.drew ?_ | refine Ext.drewN ?_ _))) rfl hgx (hhr.ext (by repeat (first | exact Ext.refl _ | refine Ext.alloc ?_ _ | assumption | refine Ext.over ?_ _ | refine Ext.drew ?_ | refine Ext.drewN ?_ _))) rfl hhx)).over.mono ?_; rintro e w' ⟨rfl, xw, rfl⟩)
  refine (HDI.out 0 0 HA hc _ (hl.ext (by repeat (first | exact Ext.refl _ | refine Ext.alloc ?_ _ | assumption | refine Ext.over ?_ _ | refine Ext.drew ?_ | refine Ext.drewN ?_ _))) (hgr.ext (by repeat (first | exact Ext.refl _ | refine Ext.alloc ?_ _ | assumption | refine Ext.over ?_ _ | refine Ext.drew ?_ | refine Ext.drewN ?_ _))) (by rw [List.drop_zero]; exact hhr.ext (by repeat (first | exact Ext.refl _ | refine Ext.alloc ?_ _ | assumption | refine Ext.over ?_ _ | refine Ext.drew ?_ | refine Ext.drewN ?_ _))) (by omega) (by omega) hcap).mono ?_
  rintro _ w2 ⟨A', c', rfl, ho, he⟩
  have E2 := hid (Ext.trans (show Ext w _ by repeat (first | exact Ext.refl _ | refine Ext.alloc ?_ _ | assumption | refine Ext.over ?_ _ | refine Ext.drew ?_ | refine Ext.drewN ?_ _)) he)
  clear ho he
  go_wp2_with fail
  go_ret
  exact ⟨by rw [HB.out]; rfl, E2.out⟩
theorem iDispatchC_any (h : Int) (A : Option Addr) (n c : Nat) (l : List T2) (GA : Option Addr) (gn gc : Nat) (gs : List Int) (HA : Option Addr) (hn hc : Nat) (hs : List Int) (w : World) (hl : Row w A (l.flatMap T2.v)) (hnl : l.length = n) (hx : n ≤ 1048577)
    (hgr : Row w GA (gs.map (Value.int .i64))) (hgn : gs.length = gn) (hgx : gn ≤ 1048577) (hhr : Row w HA (hs.map (Value.int .i64))) (hhn : hs.length = hn) (hhx : hn ≤ 1048577) (hcap : hn ≤ hc) :
    Gives Try.prog 28 #[.agg #[.int .i64 h, .slice A n c], .slice GA gn gc, .slice HA hn hc] w (.int .i64 (dispCost h l gs hs)) := iDispatch_any h A n c l GA gn gc gs HA hn hc hs w hl hnl hx hgr hgn hgx hhr hhn hhx
end Go.Proofs.Ytnkdafdafgjicaa
