/- Walks: the distance in a valid house. Conditions: sizes. -/
import Derived.Test.YtngniniiohgilaaHas
namespace Go.Proofs.Ytngniniiohgilaa
open Go.RowKit
set_option linter.unusedVariables false

set_option maxRecDepth 100000 in
set_option maxHeartbeats 1600000 in
theorem distance_any (h : Nat) (A : Option Addr) (n c : Nat) (l : List T2) (a b : Nat) (w : World) (hl : Row w A (l.flatMap T2.v)) (hn : l.length = n) (hx : n ≤ 12) (h7 : h ≤ 7) (hf : doorsOk h l = true) (ha : a < h) (hb : b < h) :
    Gives Try.prog 62 #[.agg #[.int .i64 h, .slice A n c], .int .i64 a, .int .i64 b] w (.int .i64 (dist h (adjD l) a b)) := by
  subst hn
  have HD := hid hf
  clear hf
  (unfold Gives; go_enter Try.func62, Try.ntmps62)
  go_wp2_with fail
  refine (wayIn_any h A l.length c l a b _ (hl.ext (by repeat (first | exact Ext.refl _ | refine Ext.alloc ?_ _ | assumption | refine Ext.over ?_ _ | refine Ext.drew ?_ | refine Ext.drewN ?_ _))) rfl hx h7 HD.out ha hb).mono ?_
  have hge := dist_ge (n := h) (adj := adjD l) (a := a) b
  rintro en w2 ⟨he2, ⟨hneg, rfl⟩ | ⟨hpos, A', c', rfl, ho⟩⟩
  · have HE := hid (Ext.trans (show Ext w _ by repeat (first | exact Ext.refl _ | refine Ext.alloc ?_ _ | assumption | refine Ext.over ?_ _ | refine Ext.drew ?_ | refine Ext.drewN ?_ _)) he2)
    have HZ := hid (show dist h (adjD l) a b = -1 by omega)
    clear he2 hneg hge
    go_wp2_with fail
    go_ret
    exact ⟨by rw [HZ.out]; rfl, HE.out⟩
  · have HE := hid (Ext.trans (show Ext w _ by repeat (first | exact Ext.refl _ | refine Ext.alloc ?_ _ | assumption | refine Ext.over ?_ _ | refine Ext.drew ?_ | refine Ext.drewN ?_ _)) he2)
    have HZ := hid (show ((dist h (adjD l) a b).toNat : Int) = dist h (adjD l) a b by omega)
    have hlen := own_len1 ho
    obtain ⟨m, hm⟩ : ∃ m, m = (dist h (adjD l) a b).toNat := ⟨_, rfl⟩
    rw [← hm]
    have HMM := hid hm
    have hm7 : m ≤ 7 := by
      have hd := depthD (l := l) (h := h) (a := a) b (by omega)
      omega
    clear he2 hpos hge hlen ho hm
    go_wp2_with fail
    go_ret
    exact ⟨by rw [← HZ.out, ← HMM.out]; rfl, HE.out⟩

/-! ### All halls of a valid house reach each other -/
theorem reach_all {h : Nat} {l : List T2} (g : houseOk h l = true) {a b : Nat} (ha : a < h) (hb : b < h) : 0 ≤ dist h (adjD l) a b := by
  obtain ⟨_, h1, _, _⟩ := houseOk_bounds g
  have h0 : 0 < h := by omega
  unfold houseOk at g
  have g2 := allN_iff.1 (Bool.and_eq_true_iff.1 g).2
  rw [Int.toNat_natCast] at g2
  have r1 := g2 a ha
  have r2 := g2 b hb
  unfold reach at r1 r2
  rw [decide_eq_true_eq] at r1 r2
  rw [dist_symm h0 ha (adjD_symm l)] at r1
  exact (dist_tri (adj := adjD l) ha h0 r1 r2).1
/-- A hall that is not there has a neighbour that is nearer. -/
theorem near_step {n : Nat} {adj : Nat → Nat → Bool} (hs : ∀ x y, adj x y = adj y x) {a b : Nat} (ha : a < n) (hb : b < n) (h : 0 < dist n adj a b) : ∃ k, k < n ∧ adj k a = true ∧ dist n adj k b = dist n adj a b - 1 := by
  have h1 : 0 < dist n adj b a := by rw [← dist_symm ha hb hs]; exact h
  have w := dist_way (adj := adj) (v := a) hb (by omega)
  obtain ⟨m, hm⟩ : ∃ m, (dist n adj b a).toNat = m + 1 := ⟨(dist n adj b a).toNat - 1, by omega⟩
  rw [hm] at w
  cases w with
  | snoc w1 hv hadj =>
    rename_i u
    have hu := w1.lt hb
    have d1 := dist_le hb w1
    refine ⟨u, hu, by rw [hs]; exact hadj, ?_⟩
    rw [dist_symm hu hb hs, dist_symm ha hb hs]
    have w3 := Way.snoc (dist_way hb d1.1) hv hadj
    have d3 := dist_le hb w3
    omega
theorem firstN_lk {p q : Nat → Bool} {n : Nat} : firstN n (fun k => p k && q k) = match (lk p n).find? q with | some k => (k : Int) | none => -1 := by
  unfold firstN lk
  rw [List.find?_filter]
  simp only [Bool.decide_and, Bool.decide_eq_true]
  cases List.find? (fun k => p k && q k) (List.range n) <;> rfl
theorem lk_hit {q : Nat → Bool} {ns : List Nat} {i : Nat} (hi : i < ns.length) (h : ∀ j, j < i → q (natAt ns j) = false) (hq : q (natAt ns i) = true) : ns.find? q = some (natAt ns i) := by
  rw [List.find?_eq_some_iff_getElem]
  refine ⟨hq, i, hi, (natAt_eq _ _ hi).symm, fun j hj => ?_⟩
  have := h j hj
  rw [natAt_eq _ _ (by omega)] at this
  simp [this]
theorem lk_none {q : Nat → Bool} {ns : List Nat} (h : ∀ j, j < ns.length → q (natAt ns j) = false) : ns.find? q = none := by
  rw [List.find?_eq_none]
  intro x hx
  obtain ⟨j, hj, rfl⟩ := List.getElem_of_mem hx
  have := h j hj
  rw [natAt_eq _ _ hj] at this
  simp [this]
end Go.Proofs.Ytngniniiohgilaa
