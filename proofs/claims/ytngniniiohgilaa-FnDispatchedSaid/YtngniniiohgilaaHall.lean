/- Walks: the distance of two halls. Conditions: sizes. -/
import Derived.Test.YtngniniiohgilaaHas
namespace Go.Proofs.Ytngniniiohgilaa
open Go.RowKit
set_option linter.unusedVariables false

/-- The distance of two halls, -1 if one of them is none. -/
def hallDist (h : Int) (l : List T2) (a b : Int) : Int := if hasHall h l a = true ∧ hasHall h l b = true then dist h.toNat (adjD l) a.toNat b.toNat else -1
theorem hallDist_a {h : Int} {l : List T2} {a b : Int} (g : hasHall h l a = false) : hallDist h l a b = -1 := by unfold hallDist; rw [g]; simp
theorem hallDist_b {h : Int} {l : List T2} {a b : Int} (g : hasHall h l b = false) : hallDist h l a b = -1 := by unfold hallDist; rw [g]; simp
theorem hallDist_ab {h : Int} {l : List T2} {a b : Int} (g : hasHall h l a = true) (g' : hasHall h l b = true) : hallDist h l a b = dist h.toNat (adjD l) a.toNat b.toNat := by unfold hallDist; rw [if_pos ⟨g, g'⟩]
set_option maxRecDepth 100000 in
set_option maxHeartbeats 1600000 in
theorem sHallDistance_any (h : Int) (A : Option Addr) (n c : Nat) (l : List T2) (a b : Int) (w : World) (hl : Row w A (l.flatMap T2.v)) (hn : l.length = n) (hx : n ≤ 1048577) :
    Gives Try.prog 28 #[.agg #[.int .i64 h, .slice A n c], .int .i64 a, .int .i64 b] w (.int .i64 (hallDist h l a b)) := by
  subst hn
  cases ha : hasHall h l a
  · have HB := hid (hallDist_a (b := b) ha)
    (unfold Gives; go_enter Try.func28, Try.ntmps28)
    go_wp2_with (go_at_call 54; refine (gives_b ha (l23Has_any _ _ _ _ l _ _ (hl.ext (by repeat (first | exact Ext.refl _ | refine Ext.alloc ?_ _ | assumption | refine Ext.over ?_ _ | refine Ext.drew ?_ | refine Ext.drewN ?_ _))) rfl hx)).over.mono ?_; rintro e w' ⟨rfl, xw, rfl⟩)
    go_ret
    exact ⟨by rw [HB.out]; rfl, by repeat (first | exact Ext.refl _ | refine Ext.alloc ?_ _ | assumption | refine Ext.over ?_ _ | refine Ext.drew ?_ | refine Ext.drewN ?_ _)⟩
  cases hb : hasHall h l b
  · have HB := hid (hallDist_b (a := a) hb)
    (unfold Gives; go_enter Try.func28, Try.ntmps28)
    go_wp2_with (go_at_call 54; refine (l23Has_any _ _ _ _ l _ _ (hl.ext (by repeat (first | exact Ext.refl _ | refine Ext.alloc ?_ _ | assumption | refine Ext.over ?_ _ | refine Ext.drew ?_ | refine Ext.drewN ?_ _))) rfl hx).over.mono ?_; rintro e w' ⟨rfl, xw, rfl⟩)
    go_ret
    exact ⟨by rw [HB.out]; rfl, by repeat (first | exact Ext.refl _ | refine Ext.alloc ?_ _ | assumption | refine Ext.over ?_ _ | refine Ext.drew ?_ | refine Ext.drewN ?_ _)⟩
  have HB := hid (hallDist_ab ha hb)
  obtain ⟨hk, a0, a1⟩ := hasHall_iff.1 ha
  obtain ⟨_, b0, b1⟩ := hasHall_iff.1 hb
  obtain ⟨_, h1, h7, h12⟩ := houseOk_bounds hk
  obtain ⟨h, rfl⟩ : ∃ k : Nat, h = k := ⟨h.toNat, by omega⟩
  obtain ⟨a, rfl⟩ : ∃ k : Nat, a = k := ⟨a.toNat, by omega⟩
  obtain ⟨b, rfl⟩ : ∃ k : Nat, b = k := ⟨b.toNat, by omega⟩
  have hbh : b < h := by omega
  clear hk
  (unfold Gives; go_enter Try.func28, Try.ntmps28)
  go_wp2_with (go_at_call 54; refine (l23Has_any _ _ _ _ l _ _ (hl.ext (by repeat (first | exact Ext.refl _ | refine Ext.alloc ?_ _ | assumption | refine Ext.over ?_ _ | refine Ext.drew ?_ | refine Ext.drewN ?_ _))) rfl hx).over.mono ?_; rintro e w' ⟨rfl, xw, rfl⟩)
  refine (l23Distances_any h A l.length c l a _ (hl.ext (by repeat (first | exact Ext.refl _ | refine Ext.alloc ?_ _ | assumption | refine Ext.over ?_ _ | refine Ext.drew ?_ | refine Ext.drewN ?_ _))) rfl h12 (by omega) (by omega)).mono ?_
  rintro _ w2 ⟨gd, rfl, ho, he⟩
  have HE := hid (Ext.trans (show Ext w _ by repeat (first | exact Ext.refl _ | refine Ext.alloc ?_ _ | assumption | refine Ext.over ?_ _ | refine Ext.drew ?_ | refine Ext.drewN ?_ _)) he)
  have c1 : w2.cell? ⟨gd, b, none⟩ = some (.int .i64 (dist h (adjD l) a b)) := by rw [ho.cellAt b (by omega)]; exact distC_get hbh
  clear ho he ha hb
  go_wp2_with fail
  go_ret
  exact ⟨by rw [HB.out, Int.toNat_natCast, Int.toNat_natCast, Int.toNat_natCast]; rfl, HE.out⟩
set_option maxRecDepth 100000 in
set_option maxHeartbeats 1600000 in
theorem iHallDistance_any (h : Int) (A : Option Addr) (n c : Nat) (l : List T2) (a b : Int) (w : World) (hl : Row w A (l.flatMap T2.v)) (hn : l.length = n) (hx : n ≤ 1048577) :
    Gives Try.prog 10 #[.agg #[.int .i64 h, .slice A n c], .int .i64 a, .int .i64 b] w (.int .i64 (hallDist h l a b)) := by
  subst hn
  cases hk : houseOk h l
  · have HB := hid (hallDist_a (b := b) (show hasHall h l a = false by unfold hasHall; rw [hk]; rfl))
    (unfold Gives; go_enter Try.func10, Try.ntmps10)
    go_wp2_with (go_at_call 15; refine (gives_b hk (iHouseOk_any _ _ _ _ l _ (hl.ext (by repeat (first | exact Ext.refl _ | refine Ext.alloc ?_ _ | assumption | refine Ext.over ?_ _ | refine Ext.drew ?_ | refine Ext.drewN ?_ _))) rfl hx)).over.mono ?_; rintro e w' ⟨rfl, xw, rfl⟩)
    go_ret
    exact ⟨by rw [HB.out]; rfl, by repeat (first | exact Ext.refl _ | refine Ext.alloc ?_ _ | assumption | refine Ext.over ?_ _ | refine Ext.drew ?_ | refine Ext.drewN ?_ _)⟩
  obtain ⟨hd, h1, h7, h12⟩ := houseOk_bounds hk
  cases ha : btw a 0 (h - 1)
  · have HB := hid (hallDist_a (b := b) (show hasHall h l a = false by unfold hasHall; rw [ha]; simp))
    clear hd
    (unfold Gives; go_enter Try.func10, Try.ntmps10)
    go_wp2_with (first | (go_at_call 15; refine (gives_b hk (iHouseOk_any _ _ _ _ l _ (hl.ext (by repeat (first | exact Ext.refl _ | refine Ext.alloc ?_ _ | assumption | refine Ext.over ?_ _ | refine Ext.drew ?_ | refine Ext.drewN ?_ _))) rfl hx)).over.mono ?_; rintro e w' ⟨rfl, xw, rfl⟩) | (go_at_call 42; refine (gives_b ha (isHall_any _ _ _ _ _ _ h1 h7)).over.mono ?_; rintro e w' ⟨rfl, xw, rfl⟩))
    go_ret
    exact ⟨by rw [HB.out]; rfl, by repeat (first | exact Ext.refl _ | refine Ext.alloc ?_ _ | assumption | refine Ext.over ?_ _ | refine Ext.drew ?_ | refine Ext.drewN ?_ _)⟩
  cases hb : btw b 0 (h - 1)
  · have HB := hid (hallDist_b (a := a) (show hasHall h l b = false by unfold hasHall; rw [hb]; simp))
    clear hd
    (unfold Gives; go_enter Try.func10, Try.ntmps10)
    go_wp2_with (first | (go_at_call 15; refine (gives_b hk (iHouseOk_any _ _ _ _ l _ (hl.ext (by repeat (first | exact Ext.refl _ | refine Ext.alloc ?_ _ | assumption | refine Ext.over ?_ _ | refine Ext.drew ?_ | refine Ext.drewN ?_ _))) rfl hx)).over.mono ?_; rintro e w' ⟨rfl, xw, rfl⟩) | (go_at_call 42; refine (isHall_any _ _ _ _ _ _ h1 h7).over.mono ?_; rintro e w' ⟨rfl, xw, rfl⟩))
    go_ret
    exact ⟨by rw [HB.out]; rfl, by repeat (first | exact Ext.refl _ | refine Ext.alloc ?_ _ | assumption | refine Ext.over ?_ _ | refine Ext.drew ?_ | refine Ext.drewN ?_ _)⟩
  have HB := hid (hallDist_ab (a := a) (b := b) (show hasHall h l a = true by unfold hasHall; rw [hk, ha]; rfl) (show hasHall h l b = true by unfold hasHall; rw [hk, hb]; rfl))
  have a0 := btw_iff.1 ha
  have b0 := btw_iff.1 hb
  obtain ⟨h, rfl⟩ : ∃ k : Nat, h = k := ⟨h.toNat, by omega⟩
  obtain ⟨a, rfl⟩ : ∃ k : Nat, a = k := ⟨a.toNat, by omega⟩
  obtain ⟨b, rfl⟩ : ∃ k : Nat, b = k := ⟨b.toNat, by omega⟩
  have HD := hid hd
  clear hd
  (unfold Gives; go_enter Try.func10, Try.ntmps10)
  go_wp2_with (first | (go_at_call 15; refine (gives_b hk (iHouseOk_any _ _ _ _ l _ (hl.ext (by repeat (first | exact Ext.refl _ | refine Ext.alloc ?_ _ | assumption | refine Ext.over ?_ _ | refine Ext.drew ?_ | refine Ext.drewN ?_ _))) rfl hx)).over.mono ?_; rintro e w' ⟨rfl, xw, rfl⟩) | (go_at_call 42; refine (isHall_any _ _ _ _ _ _ h1 h7).over.mono ?_; rintro e w' ⟨rfl, xw, rfl⟩))
  refine (wayIn_any h A l.length c l a b _ (hl.ext (by repeat (first | exact Ext.refl _ | refine Ext.alloc ?_ _ | assumption | refine Ext.over ?_ _ | refine Ext.drew ?_ | refine Ext.drewN ?_ _))) rfl h12 (by omega) HD.out (by omega) (by omega)).mono ?_
  have hge := dist_ge (n := h) (adj := adjD l) (a := a) b
  rintro en w2 ⟨he2, ⟨hneg, rfl⟩ | ⟨hpos, A', c', rfl, ho⟩⟩
  · have HE := hid (Ext.trans (show Ext w _ by repeat (first | exact Ext.refl _ | refine Ext.alloc ?_ _ | assumption | refine Ext.over ?_ _ | refine Ext.drew ?_ | refine Ext.drewN ?_ _)) he2)
    have HZ := hid (show dist h (adjD l) a b = -1 by omega)
    clear he2 hneg hge ha hb hk
    go_wp2_with fail
    go_ret
    exact ⟨by rw [HB.out, Int.toNat_natCast, Int.toNat_natCast, Int.toNat_natCast, HZ.out]; rfl, HE.out⟩
  · have HE := hid (Ext.trans (show Ext w _ by repeat (first | exact Ext.refl _ | refine Ext.alloc ?_ _ | assumption | refine Ext.over ?_ _ | refine Ext.drew ?_ | refine Ext.drewN ?_ _)) he2)
    have HZ := hid (show ((dist h (adjD l) a b).toNat : Int) = dist h (adjD l) a b by omega)
    have hlen := own_len1 ho
    obtain ⟨m, hm⟩ : ∃ m, m = (dist h (adjD l) a b).toNat := ⟨_, rfl⟩
    rw [← hm]
    have HMM := hid hm
    have hm7 : m ≤ 7 := by
      have hd := depthD (l := l) (h := h) (a := a) b (by omega)
      omega
    clear he2 hpos hge ha hb hk hlen ho hm
    go_wp2_with fail
    go_ret
    exact ⟨by rw [HB.out, Int.toNat_natCast, Int.toNat_natCast, Int.toNat_natCast, ← HZ.out, ← HMM.out]; rfl, HE.out⟩
end Go.Proofs.Ytngniniiohgilaa
