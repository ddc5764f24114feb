/- Walks: StepTowards. Conditions: sizes. -/
import Derived.Test.YtngniniiohgilaaHall
import Derived.Test.YtngniniiohgilaaDistance
namespace Go.Proofs.Ytngniniiohgilaa
open Go.RowKit
set_option linter.unusedVariables false

def nearer (h : Nat) (l : List T2) (a b : Nat) (k : Nat) : Bool := decide (dist h (adjD l) k b < dist h (adjD l) a b)
def stepTo (h : Int) (l : List T2) (a b : Int) : Int :=
  if hallDist h l a b < 0 then -1 else if hallDist h l a b = 0 then a else firstN h.toNat (fun k => adjD l k a.toNat && nearer h.toNat l a.toNat b.toNat k)
theorem stepTo_neg {h : Int} {l : List T2} {a b : Int} (g : hallDist h l a b = -1) : stepTo h l a b = -1 := by unfold stepTo; rw [g]; rfl
theorem stepTo_zero {h : Int} {l : List T2} {a b : Int} (g : hallDist h l a b = 0) : stepTo h l a b = a := by unfold stepTo; rw [g]; rfl
theorem stepTo_pos {h a b : Nat} {l : List T2} (g : 0 < hallDist h l a b) : stepTo h l a b = firstN h (fun k => adjD l k a && nearer h l a b k) := by
  unfold stepTo; rw [if_neg (by omega), if_neg (by omega)]; rfl
theorem hallDist_cases (h : Int) (l : List T2) (a b : Int) : hallDist h l a b = -1 ∧ (hasHall h l a = false ∨ hasHall h l b = false) ∨ 0 ≤ hallDist h l a b ∧ hasHall h l a = true ∧ hasHall h l b = true := by
  cases ha : hasHall h l a
  · exact .inl ⟨hallDist_a ha, .inl rfl⟩
  cases hb : hasHall h l b
  · exact .inl ⟨hallDist_b hb, .inr rfl⟩
  refine .inr ⟨?_, rfl, rfl⟩
  rw [hallDist_ab ha hb]
  obtain ⟨hk, a0, a1⟩ := hasHall_iff.1 ha
  obtain ⟨_, b0, b1⟩ := hasHall_iff.1 hb
  obtain ⟨_, h1, _, _⟩ := houseOk_bounds hk
  obtain ⟨h, rfl⟩ : ∃ k : Nat, h = k := ⟨h.toNat, by omega⟩
  rw [Int.toNat_natCast]
  exact reach_all hk (by omega) (by omega)

set_option maxRecDepth 100000 in
set_option maxHeartbeats 1600000 in
theorem iStep_any (h : Int) (A : Option Addr) (n c : Nat) (l : List T2) (a b : Int) (w : World) (hl : Row w A (l.flatMap T2.v)) (hn : l.length = n) (hx : n ≤ 1048577) :
    Gives Try.prog 29 #[.agg #[.int .i64 h, .slice A n c], .int .i64 a, .int .i64 b] w (.int .i64 (stepTo h l a b)) := by
  subst hn
  rcases hallDist_cases h l a b with ⟨hd, _⟩ | ⟨hd0, ha, hb⟩
  · have HB := hid (stepTo_neg hd)
    (unfold Gives; go_enter Try.func29, Try.ntmps29)
    go_wp2_with (go_at_call 10; refine (gives_v hd (iHallDistance_any _ _ _ _ l _ _ _ (hl.ext (by repeat (first | exact Ext.refl _ | refine Ext.alloc ?_ _ | assumption | refine Ext.over ?_ _ | refine Ext.drew ?_ | refine Ext.drewN ?_ _))) rfl hx)).over.mono ?_; rintro e w' ⟨rfl, xw, rfl⟩)
    go_ret
    exact ⟨by rw [HB.out]; rfl, by repeat (first | exact Ext.refl _ | refine Ext.alloc ?_ _ | assumption | refine Ext.over ?_ _ | refine Ext.drew ?_ | refine Ext.drewN ?_ _)⟩
  rcases Int.lt_or_le 0 (hallDist h l a b) with hd | hd
  rotate_left
  · have hd : hallDist h l a b = 0 := by omega
    have HB := hid (stepTo_zero hd)
    (unfold Gives; go_enter Try.func29, Try.ntmps29)
    go_wp2_with (go_at_call 10; refine (gives_v hd (iHallDistance_any _ _ _ _ l _ _ _ (hl.ext (by repeat (first | exact Ext.refl _ | refine Ext.alloc ?_ _ | assumption | refine Ext.over ?_ _ | refine Ext.drew ?_ | refine Ext.drewN ?_ _))) rfl hx)).over.mono ?_; rintro e w' ⟨rfl, xw, rfl⟩)
    go_ret
    exact ⟨by rw [HB.out]; rfl, by repeat (first | exact Ext.refl _ | refine Ext.alloc ?_ _ | assumption | refine Ext.over ?_ _ | refine Ext.drew ?_ | refine Ext.drewN ?_ _)⟩
  obtain ⟨hk, a0, a1⟩ := hasHall_iff.1 ha
  obtain ⟨_, b0, b1⟩ := hasHall_iff.1 hb
  obtain ⟨hdo, h1, h7, h12⟩ := houseOk_bounds hk
  have hda := hallDist_ab ha hb
  obtain ⟨h, rfl⟩ : ∃ k : Nat, h = k := ⟨h.toNat, by omega⟩
  obtain ⟨a, rfl⟩ : ∃ k : Nat, a = k := ⟨a.toNat, by omega⟩
  obtain ⟨b, rfl⟩ : ∃ k : Nat, b = k := ⟨b.toNat, by omega⟩
  have HB := hid (stepTo_pos hd)
  rw [Int.toNat_natCast, Int.toNat_natCast, Int.toNat_natCast] at hda
  have HD := hid hdo
  have HDA := hid hda
  have hah : a < h := by omega
  have hbh : b < h := by omega
  have hdp : 0 < dist h (adjD l) a b := by omega
  have hd7 := depthD (l := l) (h := h) (a := a) b hah
  clear hdo hda ha hb hk hd hd0
  obtain ⟨d, hdd⟩ : ∃ d, d = dist h (adjD l) a b := ⟨_, rfl⟩
  rw [← hdd] at hdp hd7
  have HDD := hid hdd
  clear hdd
  (unfold Gives; go_enter Try.func29, Try.ntmps29)
  go_wp2_with (go_at_call 10; refine (gives_v (HDA.out.trans HDD.out.symm) (iHallDistance_any _ _ _ _ l _ _ _ (hl.ext (by repeat (first | exact Ext.refl _ | refine Ext.alloc ?_ _ | assumption | refine Ext.over ?_ _ | refine Ext.drew ?_ | refine Ext.drewN ?_ _))) rfl hx)).over.mono ?_; rintro e w' ⟨rfl, xw, rfl⟩)
  refine (linksOf_any h A l.length c l a _ (hl.ext (by repeat (first | exact Ext.refl _ | refine Ext.alloc ?_ _ | assumption | refine Ext.over ?_ _ | refine Ext.drew ?_ | refine Ext.drewN ?_ _))) rfl h12 (by omega) HD.out).mono ?_
  rintro _ w1 ⟨A1, m1, c1, rfl, ho, he⟩
  have E1 := hid (Ext.trans (show Ext w _ by repeat (first | exact Ext.refl _ | refine Ext.alloc ?_ _ | assumption | refine Ext.over ?_ _ | refine Ext.drew ?_ | refine Ext.drewN ?_ _)) he)
  have HO := hid ho
  have q0 := old_cell he (show World.cell? _ ⟨w.heap.size, 0, none⟩ = some (.int .i64 ↑h) by go_simp)
  have q1 := old_cell he (show World.cell? _ ⟨w.heap.size, 1, none⟩ = some (.slice A l.length c) by go_simp)
  obtain ⟨ns, hns⟩ : ∃ ns, ns = lk (fun i => adjD l i a) h := ⟨_, rfl⟩
  have hm1 : m1 = ns.length := by have := own_len1 ho; rw [links_adj, idxs_lk, ← hns] at this; simpa using this.symm
  have HN := hid hns
  subst hm1
  have hnl : ns.length ≤ 7 := by rw [HN.out]; have := lk_len (fun i => adjD l i a) h; omega
  clear ho he hns
  go_wp2_with fail
  go_loopw [23] (fun i wr => ∃ (j : Nat), (∀ i, i < j → nearer h l a b (natAt ns i) = false) ∧ j ≤ ns.length ∧ i = .int .i64 ↑j ∧ Ext w1 wr) (fun i _ => ns.length - (intOf i).toNat)
  case atStart => exact ⟨0, by omega, by omega, rfl, by repeat (first | exact Ext.refl _ | refine Ext.alloc ?_ _ | assumption | refine Ext.over ?_ _ | refine Ext.drew ?_ | refine Ext.drewN ?_ _)⟩
  case round =>
    obtain ⟨j, hj, hjn, rfl, he⟩ := hrel
    have HJ := hid hj
    have HE := hid (E1.out.trans he)
    have HE1 := hid he
    have p0 := old_cell he q0
    have p1 := old_cell he q1
    have HR := hid (hl.ext HE.out)
    have hrow := Row.of_own (own_ext HO.out he)
    by_cases hlt : j < ns.length
    · have hv := natAt_mem hlt
      rw [HN.out] at hv
      obtain ⟨hv1, hv2⟩ := lk_lt hv
      rw [← HN.out] at hv1 hv2
      obtain ⟨v, hvv⟩ : ∃ v, v = natAt ns j := ⟨_, rfl⟩
      rw [← hvv] at hv1
      obtain ⟨bb, off, rfl, hc⟩ := hrow.at_ (j := j) (by rw [links_adj, idxs_lk, ← HN.out]; simpa using hlt)
      have c1 : wr.cell? ⟨bb, off + j, none⟩ = some (.int .i64 v) := by
        refine hc j _ ?_
        rw [links_adj, idxs_at (by rw [← HN.out]; exact hlt), ← HN.out, ← hvv]
      have HV := hid hvv
      have HA := hid hv2
      clear hc hrow hj he q0 q1 hv hvv hv2
      cases hnr : decide (dist h (adjD l) v b < d)
      · have HQ := hid (show nearer h l a b (natAt ns j) = false by unfold nearer; rw [← HV.out, ← HDD.out]; exact hnr)
        go_wp2_with (go_at_call 62; refine (distance_any h _ _ _ l _ _ _ (HR.out.ext (by repeat (first | exact Ext.refl _ | refine Ext.alloc ?_ _ | assumption | refine Ext.over ?_ _ | refine Ext.drew ?_ | refine Ext.drewN ?_ _))) rfl h12 (by omega) HD.out hv1 hbh).over.mono ?_; rintro e w' ⟨rfl, xw, rfl⟩)
        go_roundw
        case rel => exact ⟨j + 1, lt_succ_all HJ.out HQ.out, by omega, by go_num, HE1.out.trans (by repeat (first | exact Ext.refl _ | refine Ext.alloc ?_ _ | assumption | refine Ext.over ?_ _ | refine Ext.drew ?_ | refine Ext.drewN ?_ _))⟩
        case measure => simp [intOf]; omega
      · have HQ := hid (show stepTo h l a b = v by
          rw [HB.out, firstN_lk, ← HN.out, lk_hit hlt HJ.out (by unfold nearer; rw [← HV.out, ← HDD.out]; exact hnr)]
          rw [← HV.out])
        go_wp2_with (go_at_call 62; refine (distance_any h _ _ _ l _ _ _ (HR.out.ext (by repeat (first | exact Ext.refl _ | refine Ext.alloc ?_ _ | assumption | refine Ext.over ?_ _ | refine Ext.drew ?_ | refine Ext.drewN ?_ _))) rfl h12 (by omega) HD.out hv1 hbh).over.mono ?_; rintro e w' ⟨rfl, xw, rfl⟩)
        go_ret
        exact ⟨by rw [HQ.out]; rfl, HE.out.trans (by repeat (first | exact Ext.refl _ | refine Ext.alloc ?_ _ | assumption | refine Ext.over ?_ _ | refine Ext.drew ?_ | refine Ext.drewN ?_ _))⟩
    · have HQ := hid (show stepTo h l a b = -1 by
        rw [HB.out, firstN_lk, ← HN.out, lk_none (fun j' hj' => HJ.out j' (by omega))])
      clear hrow
      go_wp2_with fail
      go_ret
      exact ⟨by rw [HQ.out]; rfl, HE.out⟩
end Go.Proofs.Ytngniniiohgilaa
