/- Walks: BestDispatch. Conditions: sizes; a dispatch that can be. -/
import Derived.Test.YtngniniiohgilaaDispJ
import Derived.Test.YtngniniiohgilaaDrawPlaces
namespace Go.Proofs.Ytngniniiohgilaa
open Go.RowKit
set_option linter.unusedVariables false

set_option maxHeartbeats 1600000 in
set_option maxRecDepth 100000 in
theorem disp_nil (h : Int) (A : Option Addr) (n c : Nat) (GA HA : Option Addr) (gn gc hc' : Nat) (w : World) :
    Calls Try.prog 60 #[.agg #[.int .i64 h, .slice A n c], .slice GA gn gc, .slice HA 0 hc', .slice none 0 0] w fun en w' => ∃ A' c', en = .returned (.tuple #[.slice A' 0 c', .int .i64 0]) ∧ w'.ownsRow w.heap.size 3 1 (.slice A' 0 c') 0 [] ∧ Ext w w' := by
  go_enter Try.func60, Try.ntmps60
  go_wp2_with fail
  go_loopw [11, 27] (fun sv iv wr => iv = .int .i64 0 ∧ sv = .int .i64 0 ∧ Ext w wr) (fun _ iv _ => 0)
  case atStart => exact ⟨rfl, rfl, by repeat (first | exact Ext.refl _ | refine Ext.alloc ?_ _ | assumption | refine Ext.over ?_ _ | refine Ext.drew ?_ | refine Ext.drewN ?_ _)⟩
  case round =>
    obtain ⟨rfl, rfl, he⟩ := hrel
    have HE := hid he
    clear he
    go_wp2_with fail
    refine (Clone_any none 0 0 [] wr (Row.nil _ _) rfl (by omega) (by intro _; exact ⟨rfl, rfl⟩)).mono ?_
    rintro _ w3 ⟨A', c1, rfl, ho, he3⟩
    have HO3 := hid (own_base (base' := w.heap.size) ho HE.out.size)
    have E3 := hid (HE.out.trans he3)
    clear ho he3
    go_wp2_with fail
    refine bodyPost_ret (v := .tuple #[.slice A' 0 c1, .int .i64 0]) (by simp [results, Try.results60, go_sem]) rfl ?_
    exact ⟨A', c1, rfl, HO3.out, E3.out⟩
/-- The best dispatch, where one can be. -/
def bestDisp (h : Nat) (l : List T2) (gs hs : List Int) : List Nat := if hs.length = 0 then [] else (disp (dd h l gs hs) gs.length hs.length []).1
set_option maxHeartbeats 1600000 in
set_option maxRecDepth 100000 in
theorem iBestD_any (h : Nat) (A : Option Addr) (n c : Nat) (l : List T2) (GA : Option Addr) (gn gc : Nat) (gs : List Int) (HA : Option Addr) (hn hc : Nat) (hs : List Int) (w : World) (hl : Row w A (l.flatMap T2.v)) (hnl : l.length = n) (hx : n ≤ 1048577)
    (hgr : Row w GA (gs.map (Value.int .i64))) (hgn : gs.length = gn) (hgx : gn ≤ 1048577) (hhr : Row w HA (hs.map (Value.int .i64))) (hhn : hs.length = hn) (hhx : hn ≤ 1048577) (hc' : canD h l gs hs = true) :
    Calls Try.prog 24 #[.agg #[.int .i64 h, .slice A n c], .slice GA gn gc, .slice HA hn hc] w fun en w' => ∃ A' c', en = .returned (.slice A' hn c') ∧ w'.ownsRow w.heap.size 3 1 (.slice A' hn c') hn ((ci (bestDisp h l gs hs)).map (Value.int .i64)) ∧ Ext w w' := by
  subst hnl hgn hhn
  obtain ⟨hmG, hG5, hg, hh⟩ := canD_iff.1 hc'
  have hk := (halls_iff.1 hg).1
  obtain ⟨hd, h1, h7, h12⟩ := houseOk_bounds hk
  by_cases h0 : hs.length = 0
  · obtain rfl : hs = [] := List.eq_nil_of_length_eq_zero h0
    have HC := hid hc'
    clear hd hc' hg hh hk h0
    go_enter Try.func24, Try.ntmps24
    go_wp2_with (go_at_call 59; refine (gives_b HC.out (canDispatch_any _ _ _ _ l _ _ _ gs _ _ _ [] _ (hl.ext (by repeat (first | exact Ext.refl _ | refine Ext.alloc ?_ _ | assumption | refine Ext.over ?_ _ | refine Ext.drew ?_ | refine Ext.drewN ?_ _))) rfl hx (hgr.ext (by repeat (first | exact Ext.refl _ | refine Ext.alloc ?_ _ | assumption | refine Ext.over ?_ _ | refine Ext.drew ?_ | refine Ext.drewN ?_ _))) rfl hgx (hhr.ext (by repeat (first | exact Ext.refl _ | refine Ext.alloc ?_ _ | assumption | refine Ext.over ?_ _ | refine Ext.drew ?_ | refine Ext.drewN ?_ _))) rfl hhx)).over.mono ?_; rintro e w' ⟨rfl, xw, rfl⟩)
    refine (disp_nil h A l.length c GA HA gs.length gc hc _).mono ?_
    rintro _ w2 ⟨A', c', rfl, ho, he⟩
    have E2 := hid (Ext.trans (show Ext w _ by repeat (first | exact Ext.refl _ | refine Ext.alloc ?_ _ | assumption | refine Ext.over ?_ _ | refine Ext.drew ?_ | refine Ext.drewN ?_ _)) he)
    have HO := hid (own_base (base' := w.heap.size) ho (show Ext w _ by repeat (first | exact Ext.refl _ | refine Ext.alloc ?_ _ | assumption | refine Ext.over ?_ _ | refine Ext.drew ?_ | refine Ext.drewN ?_ _)).size)
    clear ho he
    go_wp2_with fail
    go_ret
    exact ⟨A', c', rfl, HO.out, E2.out⟩
  have HDI := hid (disp_any h A c l gs hs GA HA gc hc hk (halls_in hg) (halls_in hh) hG5 (by omega) hmG hs.length)
  have HBE := hid (show bestDisp h l gs hs = (disp (dd h l gs hs) gs.length hs.length []).1 from if_neg h0)
  have HC := hid hc'
  clear hd hc' hg hh hk
  go_enter Try.func24, Try.ntmps24
  go_wp2_with (go_at_call 59; refine (gives_b HC.out (canDispatch_any _ _ _ _ l _ _ _ gs _ _ _ hs _ (hl.ext (by repeat (first | exact Ext.refl _ | refine Ext.alloc ?_ _ | assumption | refine Ext.over ?_ _ | refine Ext.drew ?_ | refine Ext.drewN ?_ _))) rfl hx (hgr.ext (by repeat (first | exact Ext.refl _ | refine Ext.alloc ?_ _ | assumption | refine Ext.over ?_ _ | refine Ext.drew ?_ | refine Ext.drewN ?_ _))) rfl hgx (hhr.ext (by repeat (first | exact Ext.refl _ | refine Ext.alloc ?_ _ | assumption | refine Ext.over ?_ _ | refine Ext.drew ?_ | refine Ext.drewN ?_ _))) rfl hhx)).over.mono ?_; rintro e w' ⟨rfl, xw, rfl⟩)
  refine (HDI.out [] none 0 0 _ (hl.ext (by repeat (first | exact Ext.refl _ | refine Ext.alloc ?_ _ | assumption | refine Ext.over ?_ _ | refine Ext.drew ?_ | refine Ext.drewN ?_ _))) (hgr.ext (by repeat (first | exact Ext.refl _ | refine Ext.alloc ?_ _ | assumption | refine Ext.over ?_ _ | refine Ext.drew ?_ | refine Ext.drewN ?_ _))) (hhr.ext (by repeat (first | exact Ext.refl _ | refine Ext.alloc ?_ _ | assumption | refine Ext.over ?_ _ | refine Ext.drew ?_ | refine Ext.drewN ?_ _))) (Row.nil _ _) rfl ⟨List.nodup_nil, by simp⟩ (by omega) (fun _ => ⟨rfl, rfl⟩) (by omega)).mono ?_
  rintro _ w2 ⟨g, c', rfl, ho, he⟩
  have E2 := hid (Ext.trans (show Ext w _ by repeat (first | exact Ext.refl _ | refine Ext.alloc ?_ _ | assumption | refine Ext.over ?_ _ | refine Ext.drew ?_ | refine Ext.drewN ?_ _)) he)
  have HO := hid (own_base (base' := w.heap.size) ho (show Ext w _ by repeat (first | exact Ext.refl _ | refine Ext.alloc ?_ _ | assumption | refine Ext.over ?_ _ | refine Ext.drew ?_ | refine Ext.drewN ?_ _)).size)
  clear ho he
  go_wp2_with fail
  go_ret
  rw [HBE.out]
  exact ⟨_, c', rfl, HO.out, E2.out⟩
end Go.Proofs.Ytngniniiohgilaa
