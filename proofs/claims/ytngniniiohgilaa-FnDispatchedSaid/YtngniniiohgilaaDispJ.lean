/- Walks: DispatchCost of the program. Conditions: sizes. -/
import Derived.Test.YtngniniiohgilaaDispI
namespace Go.Proofs.Ytngniniiohgilaa
open Go.RowKit
set_option linter.unusedVariables false

def canD (h : Int) (l : List T2) (gs hs : List Int) : Bool := decide (hs.length ≤ gs.length) && (decide (gs.length ≤ 5) && (halls h l gs && halls h l hs))
theorem canD_iff {h : Int} {l : List T2} {gs hs : List Int} : canD h l gs hs = true ↔ hs.length ≤ gs.length ∧ gs.length ≤ 5 ∧ halls h l gs = true ∧ halls h l hs = true := by unfold canD; simp
def dispCost (h : Int) (l : List T2) (gs hs : List Int) : Int := if hs.length = 0 then 0 else if canD h l gs hs = true then (disp (dd h.toNat l gs hs) gs.length hs.length []).2 else -1
theorem dispCost_none {h : Int} {l : List T2} {gs hs : List Int} (e : hs.length = 0) : dispCost h l gs hs = 0 := by unfold dispCost; rw [if_pos e]
theorem dispCost_no {h : Int} {l : List T2} {gs hs : List Int} (e : ¬ hs.length = 0) (g : canD h l gs hs = false) : dispCost h l gs hs = -1 := by unfold dispCost; rw [if_neg e, g]; simp
theorem dispCost_yes {h : Int} {l : List T2} {gs hs : List Int} (e : ¬ hs.length = 0) (g : canD h l gs hs = true) : dispCost h l gs hs = (disp (dd h.toNat l gs hs) gs.length hs.length []).2 := by unfold dispCost; rw [if_neg e, if_pos g]
theorem halls_in {h : Nat} {l : List T2} {g : List Int} (e : halls h l g = true) : InH h g := fun k hk => by
  have := (halls_iff.1 e).2 k hk
  omega
set_option maxRecDepth 100000 in
set_option maxHeartbeats 1600000 in
theorem canDispatch_any (h : Int) (A : Option Addr) (n c : Nat) (l : List T2) (GA : Option Addr) (gn gc : Nat) (gs : List Int) (HA : Option Addr) (hn hc : Nat) (hs : List Int) (w : World) (hl : Row w A (l.flatMap T2.v)) (hnl : l.length = n) (hx : n ≤ 1048577)
    (hgr : Row w GA (gs.map (Value.int .i64))) (hgn : gs.length = gn) (hgx : gn ≤ 1048577) (hhr : Row w HA (hs.map (Value.int .i64))) (hhn : hs.length = hn) (hhx : hn ≤ 1048577) :
    Gives Try.prog 59 #[.agg #[.int .i64 h, .slice A n c], .slice GA gn gc, .slice HA hn hc] w (.bool (canD h l gs hs)) := by
  subst hnl hgn hhn
  have HL := hid hl
  have HG := hid hgr
  have HH := hid hhr
  clear hl hgr hhr
  by_cases h1 : (hs.length : Int) ≤ gs.length
  rotate_left
  · have HB := hid (show canD h l gs hs = false by unfold canD; rw [decide_eq_false (show ¬ hs.length ≤ gs.length by omega)]; rfl)
    (unfold Gives; go_enter Try.func59, Try.ntmps59)
    go_wp2_with fail
    go_ret
    exact ⟨by rw [HB.out]; rfl, by repeat (first | exact Ext.refl _ | refine Ext.alloc ?_ _ | assumption | refine Ext.over ?_ _ | refine Ext.drew ?_ | refine Ext.drewN ?_ _)⟩
  by_cases h2 : (gs.length : Int) ≤ 5
  rotate_left
  · have HB := hid (show canD h l gs hs = false by unfold canD; rw [decide_eq_false (show ¬ gs.length ≤ 5 by omega)]; simp)
    (unfold Gives; go_enter Try.func59, Try.ntmps59)
    go_wp2_with fail
    go_ret
    exact ⟨by rw [HB.out]; rfl, by repeat (first | exact Ext.refl _ | refine Ext.alloc ?_ _ | assumption | refine Ext.over ?_ _ | refine Ext.drew ?_ | refine Ext.drewN ?_ _)⟩
  have e1 := decide_eq_true (show hs.length ≤ gs.length by omega)
  have e2 := decide_eq_true (show gs.length ≤ 5 by omega)
  cases h3 : halls h l gs
  · have HB := hid (show canD h l gs hs = false by unfold canD; rw [h3]; simp)
    clear e1 e2
    (unfold Gives; go_enter Try.func59, Try.ntmps59)
    go_wp2_with (go_at_call 61; refine (gives_b h3 (ihalls_any _ _ _ _ l _ _ _ gs _ (HL.out.ext (by repeat (first | exact Ext.refl _ | refine Ext.alloc ?_ _ | assumption | refine Ext.over ?_ _ | refine Ext.drew ?_ | refine Ext.drewN ?_ _))) rfl hx (HG.out.ext (by repeat (first | exact Ext.refl _ | refine Ext.alloc ?_ _ | assumption | refine Ext.over ?_ _ | refine Ext.drew ?_ | refine Ext.drewN ?_ _))) rfl hgx)).over.mono ?_; rintro e w' ⟨rfl, xw, rfl⟩)
    go_ret
    exact ⟨by rw [HB.out]; rfl, by repeat (first | exact Ext.refl _ | refine Ext.alloc ?_ _ | assumption | refine Ext.over ?_ _ | refine Ext.drew ?_ | refine Ext.drewN ?_ _)⟩
  have HB := hid (show canD h l gs hs = halls h l hs by unfold canD; rw [h3, e1, e2]; rfl)
  clear e1 e2
  (unfold Gives; go_enter Try.func59, Try.ntmps59)
  go_wp2_with fail
  refine ((gives_b h3 (ihalls_any _ _ _ _ l _ _ _ gs _ (HL.out.ext (by repeat (first | exact Ext.refl _ | refine Ext.alloc ?_ _ | assumption | refine Ext.over ?_ _ | refine Ext.drew ?_ | refine Ext.drewN ?_ _))) rfl hx (HG.out.ext (by repeat (first | exact Ext.refl _ | refine Ext.alloc ?_ _ | assumption | refine Ext.over ?_ _ | refine Ext.drew ?_ | refine Ext.drewN ?_ _))) rfl hgx)).over).mono ?_
  rintro e w' ⟨rfl, xw, rfl⟩
  go_wp2_with fail
  refine ((ihalls_any _ _ _ _ l _ _ _ hs _ (HL.out.ext (by repeat (first | exact Ext.refl _ | refine Ext.alloc ?_ _ | assumption | refine Ext.over ?_ _ | refine Ext.drew ?_ | refine Ext.drewN ?_ _))) rfl hx (HH.out.ext (by repeat (first | exact Ext.refl _ | refine Ext.alloc ?_ _ | assumption | refine Ext.over ?_ _ | refine Ext.drew ?_ | refine Ext.drewN ?_ _))) rfl hhx).over).mono ?_
  rintro e w' ⟨rfl, xw, rfl⟩
  go_wp2_with fail
  go_ret
  exact ⟨by rw [HB.out]; rfl, by repeat (first | exact Ext.refl _ | refine Ext.alloc ?_ _ | assumption | refine Ext.over ?_ _ | refine Ext.drew ?_ | refine Ext.drewN ?_ _)⟩
set_option maxRecDepth 100000 in
set_option maxHeartbeats 1600000 in
theorem iDispatch_any (h : Int) (A : Option Addr) (n c : Nat) (l : List T2) (GA : Option Addr) (gn gc : Nat) (gs : List Int) (HA : Option Addr) (hn hc : Nat) (hs : List Int) (w : World) (hl : Row w A (l.flatMap T2.v)) (hnl : l.length = n) (hx : n ≤ 1048577)
    (hgr : Row w GA (gs.map (Value.int .i64))) (hgn : gs.length = gn) (hgx : gn ≤ 1048577) (hhr : Row w HA (hs.map (Value.int .i64))) (hhn : hs.length = hn) (hhx : hn ≤ 1048577) :
    Gives Try.prog 25 #[.agg #[.int .i64 h, .slice A n c], .slice GA gn gc, .slice HA hn hc] w (.int .i64 (dispCost h l gs hs)) := by
  subst hnl hgn hhn
  by_cases h0 : hs.length = 0
  · have HB := hid (dispCost_none (h := h) (l := l) (gs := gs) h0)
    (unfold Gives; go_enter Try.func25, Try.ntmps25)
    go_wp2_with fail
    go_ret
    exact ⟨by rw [HB.out]; rfl, by repeat (first | exact Ext.refl _ | refine Ext.alloc ?_ _ | assumption | refine Ext.over ?_ _ | refine Ext.drew ?_ | refine Ext.drewN ?_ _)⟩
  have hne : ((hs.length : Int) == 0) = false := by rw [beq_eq_false_iff_ne]; omega
  cases hc' : canD h l gs hs
  · have HB := hid (dispCost_no h0 hc')
    (unfold Gives; go_enter Try.func25, Try.ntmps25)
    go_wp2_with (go_at_call 59; refine (gives_b hc' (canDispatch_any _ _ _ _ l _ _ _ gs _ _ _ hs _ (hl.ext (by repeat (first | exact Ext.refl _ | refine Ext.alloc ?_ _ | assumption | refine Ext.over ?_ _ | refine Ext.drew ?_ | refine Ext.drewN ?_ _))) rfl hx (hgr.ext (by repeat (first | exact Ext.refl _ | refine Ext.alloc ?_ _ | assumption | refine Ext.over ?_ _ | refine Ext.drew ?_ | refine Ext.drewN ?_ _))) rfl hgx (hhr.ext (by repeat (first | exact Ext.refl _ | refine Ext.alloc ?_ _ | assumption | refine Ext.over ?_ _ | refine Ext.drew ?_ | refine Ext.drewN ?_ _))) rfl hhx)).over.mono ?_; rintro e w' ⟨rfl, xw, rfl⟩)
    go_ret
    exact ⟨by rw [HB.out]; rfl, by repeat (first | exact Ext.refl _ | refine Ext.alloc ?_ _ | assumption | refine Ext.over ?_ _ | refine Ext.drew ?_ | refine Ext.drewN ?_ _)⟩
  have HB := hid (dispCost_yes h0 hc')
  obtain ⟨hmG, hG5, hg, hh⟩ := canD_iff.1 hc'
  have hk := (halls_iff.1 hg).1
  obtain ⟨hd, h1, h7, h12⟩ := houseOk_bounds hk
  obtain ⟨h, rfl⟩ : ∃ k : Nat, h = k := ⟨h.toNat, by omega⟩
  have HDI := hid (disp_any h A c l gs hs GA HA gc hc hk (halls_in hg) (halls_in hh) hG5 (by omega) hmG hs.length)
  have HC := hid hc'
  clear hd hc' hg hh hk
  (unfold Gives; go_enter Try.func25, Try.ntmps25)
  go_wp2_with (go_at_call 59; refine (gives_b HC.out (canDispatch_any _ _ _ _ l _ _ _ gs _ _ _ hs _ (hl.ext (by repeat (first | exact Ext.refl _ | refine Ext.alloc ?_ _ | assumption | refine Ext.over ?_ _ | refine Ext.drew ?_ | refine Ext.drewN ?_ _))) rfl hx (hgr.ext (by repeat (first | exact Ext.refl _ | refine Ext.alloc ?_ _ | assumption | refine Ext.over ?_ _ | refine Ext.drew ?_ | refine Ext.drewN ?_ _))) rfl hgx (hhr.ext (by repeat (first | exact Ext.refl _ | refine Ext.alloc ?_ _ | assumption | refine Ext.over ?_ _ | refine Ext.drew ?_ | refine Ext.drewN ?_ _))) rfl hhx)).over.mono ?_; rintro e w' ⟨rfl, xw, rfl⟩)
  refine (HDI.out [] none 0 0 _ (hl.ext (by repeat (first | exact Ext.refl _ | refine Ext.alloc ?_ _ | assumption | refine Ext.over ?_ _ | refine Ext.drew ?_ | refine Ext.drewN ?_ _))) (hgr.ext (by repeat (first | exact Ext.refl _ | refine Ext.alloc ?_ _ | assumption | refine Ext.over ?_ _ | refine Ext.drew ?_ | refine Ext.drewN ?_ _))) (hhr.ext (by repeat (first | exact Ext.refl _ | refine Ext.alloc ?_ _ | assumption | refine Ext.over ?_ _ | refine Ext.drew ?_ | refine Ext.drewN ?_ _))) (Row.nil _ _) rfl ⟨List.nodup_nil, by simp⟩ (by omega) (fun _ => ⟨rfl, rfl⟩) (by omega)).mono ?_
  rintro _ w2 ⟨g, c', rfl, ho, he⟩
  have E2 := hid (Ext.trans (show Ext w _ by repeat (first | exact Ext.refl _ | refine Ext.alloc ?_ _ | assumption | refine Ext.over ?_ _ | refine Ext.drew ?_ | refine Ext.drewN ?_ _)) he)
  clear ho he
  go_wp2_with fail
  go_ret
  exact ⟨by rw [HB.out, Int.toNat_natCast]; rfl, E2.out⟩
end Go.Proofs.Ytngniniiohgilaa
