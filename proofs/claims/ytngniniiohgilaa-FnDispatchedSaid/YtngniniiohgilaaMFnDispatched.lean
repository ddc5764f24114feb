/- Texts merged: lemmas and walks under FnDispatched. No condition. -/
import Derived.Test.YtngniniiohgilaaHallsI
import Derived.Test.YtngniniiohgilaaHas
import Derived.Test.YtngniniiohgilaaBestP
import Derived.Test.YtngniniiohgilaaDistance
import Derived.Test.YtngniniiohgilaaAfterI
import Derived.Test.YtngniniiohgilaaBits
import Derived.Test.YtngniniiohgilaaHer
import Derived.Test.YtngniniiohgilaaDist
import Derived.Test.YtngniniiohgilaaClone
import Derived.Test.YtngniniiohgilaaHer4
import Derived.Test.YtngniniiohgilaaOrderI
import Derived.Test.YtngniniiohgilaaHall
import Derived.Test.YtngniniiohgilaaInts
import Derived.Test.YtngniniiohgilaaBestD
import Derived.Test.YtngniniiohgilaaWayCostI
import Derived.Test.YtngniniiohgilaaStepI
import Derived.Test.YtngniniiohgilaaDraw2
/- Walks: NearestTo. Conditions: sizes. -/
namespace Go.Proofs.Ytngniniiohgilaa
open Go.RowKit
set_option linter.unusedVariables false

/-- The first of k things that is nearest, -1 if there is none. -/
def nearTo (d : Nat → Int) : Nat → Int
  | 0 => -1
  | k + 1 => if nearTo d k < 0 then k else if d k < d (nearTo d k).toNat then k else nearTo d k
theorem nearTo_cases (d : Nat → Int) (k : Nat) : nearTo d k = -1 ∧ k = 0 ∨ ∃ b : Nat, nearTo d k = b ∧ b < k := by
  induction k with
  | zero => exact .inl ⟨rfl, rfl⟩
  | succ k ih =>
    refine .inr ?_
    unfold nearTo
    split
    · exact ⟨k, rfl, by omega⟩
    · split
      · exact ⟨k, rfl, by omega⟩
      · rcases ih with ⟨h, _⟩ | ⟨b, h, hb⟩
        · omega
        · exact ⟨b, h, by omega⟩
theorem nearTo_first (d : Nat → Int) : nearTo d 1 = 0 := by unfold nearTo nearTo; rfl
theorem nearTo_yes {d : Nat → Int} {k b : Nat} (h : nearTo d k = b) (hd : decide (d k < d b) = true) : nearTo d (k + 1) = k := by
  unfold nearTo; rw [h, if_neg (by omega), Int.toNat_natCast, if_pos (of_decide_eq_true hd)]
theorem nearTo_no {d : Nat → Int} {k b : Nat} (h : nearTo d k = b) (hd : decide (d k < d b) = false) : nearTo d (k + 1) = b := by
  unfold nearTo; rw [h, if_neg (by omega), Int.toNat_natCast, if_neg (of_decide_eq_false hd)]
def gd (h : Nat) (l : List T2) (g : List Int) (x : Nat) (k : Nat) : Int := dist h (adjD l) (atI g k).toNat x
def nearestTo (h : Int) (l : List T2) (g : List Int) (x : Int) : Int := if halls h l g = true ∧ btw x 0 (h - 1) = true then nearTo (gd h.toNat l g x.toNat) g.length else -1
theorem near_no {h : Int} {l : List T2} {g : List Int} {x : Int} (e : halls h l g = false) : nearestTo h l g x = -1 := by unfold nearestTo; rw [if_neg (by rw [e]; simp)]
theorem near_out {h : Int} {l : List T2} {g : List Int} {x : Int} (e : btw x 0 (h - 1) = false) : nearestTo h l g x = -1 := by unfold nearestTo; rw [if_neg (by rw [e]; simp)]
theorem near_ok {h x : Nat} {l : List T2} {g : List Int} (e : halls h l g = true) (e' : btw x 0 (h - 1) = true) : nearestTo h l g x = nearTo (gd h l g x) g.length := by unfold nearestTo; rw [if_pos ⟨e, e'⟩]; rfl
set_option maxRecDepth 100000 in
set_option maxHeartbeats 1600000 in
theorem iNear_any (h : Int) (A : Option Addr) (n c : Nat) (l : List T2) (B : Option Addr) (m d : Nat) (g : List Int) (x : Int) (w : World) (hl : Row w A (l.flatMap T2.v)) (hn : l.length = n) (hx : n ≤ 1048577) (hg : Row w B (g.map (Value.int .i64))) (hm : g.length = m) (hy : m ≤ 1048577) :
    Gives Try.prog 27 #[.agg #[.int .i64 h, .slice A n c], .slice B m d, .int .i64 x] w (.int .i64 (nearestTo h l g x)) := by
  subst hn hm
  cases hk : halls h l g
  · have HB := hid (near_no (x := x) hk)
    (unfold Gives; go_enter Try.func27, Try.ntmps27)
    go_wp2_with (go_at_call 61; refine (gives_b hk (ihalls_any _ _ _ _ l _ _ _ g _ (hl.ext (by repeat (first | exact Ext.refl _ | refine Ext.alloc ?_ _ | assumption | refine Ext.over ?_ _ | refine Ext.drew ?_ | refine Ext.drewN ?_ _))) rfl hx (hg.ext (by repeat (first | exact Ext.refl _ | refine Ext.alloc ?_ _ | assumption | refine Ext.over ?_ _ | refine Ext.drew ?_ | refine Ext.drewN ?_ _))) rfl hy)).over.mono ?_; rintro e w' ⟨rfl, xw, rfl⟩)
    go_ret
    exact ⟨by rw [HB.out]; rfl, by repeat (first | exact Ext.refl _ | refine Ext.alloc ?_ _ | assumption | refine Ext.over ?_ _ | refine Ext.drew ?_ | refine Ext.drewN ?_ _)⟩
  obtain ⟨hk1, hk2⟩ := halls_iff.1 hk
  obtain ⟨hd, h1, h7, h12⟩ := houseOk_bounds hk1
  have HD := hid hd
  have HK2 := hid hk2
  have HG := hid hg
  clear hd hk1 hk2
  cases hxb : btw x 0 (h - 1)
  · have HB := hid (near_out (l := l) (g := g) hxb)
    (unfold Gives; go_enter Try.func27, Try.ntmps27)
    go_wp2_with (first | (go_at_call 61; refine (gives_b hk (ihalls_any _ _ _ _ l _ _ _ g _ (hl.ext (by repeat (first | exact Ext.refl _ | refine Ext.alloc ?_ _ | assumption | refine Ext.over ?_ _ | refine Ext.drew ?_ | refine Ext.drewN ?_ _))) rfl hx (HG.out.ext (by repeat (first | exact Ext.refl _ | refine Ext.alloc ?_ _ | assumption | refine Ext.over ?_ _ | refine Ext.drew ?_ | refine Ext.drewN ?_ _))) rfl hy)).over.mono ?_; rintro e w' ⟨rfl, xw, rfl⟩) | (go_at_call 42; refine (gives_b hxb (isHall_any _ _ _ _ _ _ h1 h7)).over.mono ?_; rintro e w' ⟨rfl, xw, rfl⟩))
    go_ret
    exact ⟨by rw [HB.out]; rfl, by repeat (first | exact Ext.refl _ | refine Ext.alloc ?_ _ | assumption | refine Ext.over ?_ _ | refine Ext.drew ?_ | refine Ext.drewN ?_ _)⟩
  have hxx := btw_iff.1 hxb
  obtain ⟨h, rfl⟩ : ∃ k : Nat, h = k := ⟨h.toNat, by omega⟩
  obtain ⟨x, rfl⟩ : ∃ k : Nat, x = k := ⟨x.toNat, by omega⟩
  have HB := hid (near_ok hk hxb)
  have hxh : x < h := by omega
  have h7' : h ≤ 7 := by omega
  (unfold Gives; go_enter Try.func27, Try.ntmps27)
  go_wp2_with (first | (go_at_call 61; refine (gives_b hk (ihalls_any _ _ _ _ l _ _ _ g _ (hl.ext (by repeat (first | exact Ext.refl _ | refine Ext.alloc ?_ _ | assumption | refine Ext.over ?_ _ | refine Ext.drew ?_ | refine Ext.drewN ?_ _))) rfl hx (HG.out.ext (by repeat (first | exact Ext.refl _ | refine Ext.alloc ?_ _ | assumption | refine Ext.over ?_ _ | refine Ext.drew ?_ | refine Ext.drewN ?_ _))) rfl hy)).over.mono ?_; rintro e w' ⟨rfl, xw, rfl⟩) | (go_at_call 42; refine (gives_b hxb (isHall_any _ _ _ _ _ _ h1 h7)).over.mono ?_; rintro e w' ⟨rfl, xw, rfl⟩))
  clear hk hxb
  go_loopw [7, 22] (fun o i wr => ∃ (k : Nat), k ≤ g.length ∧ i = .int .i64 ↑k ∧ o = .int .i64 (nearTo (gd h l g x) k) ∧ Ext w wr ∧ wr.cell? ⟨w.heap.size, 0, none⟩ = some (.int .i64 h) ∧ wr.cell? ⟨w.heap.size, 1, none⟩ = some (.slice A l.length c)) (fun _ i _ => (g.length - (intOf i).toNat))
  case atStart => exact ⟨0, by omega, rfl, rfl, by repeat (first | exact Ext.refl _ | refine Ext.alloc ?_ _ | assumption | refine Ext.over ?_ _ | refine Ext.drew ?_ | refine Ext.drewN ?_ _), by go_simp, by go_simp⟩
  case round =>
    obtain ⟨k, hkn, rfl, rfl, he, b0, b1⟩ := hrel
    have HE := hid he
    have HL := hid (hl.ext he)
    have hG := HG.out.ext he
    by_cases hlt : k < g.length
    · obtain ⟨gb, goff, rfl, hgc⟩ := hG.ints hlt
      have c1 := hgc k hlt
      have r1 := HK2.out k hlt
      obtain ⟨gk, hgk⟩ : ∃ u : Nat, u = (atI g k).toNat := ⟨_, rfl⟩
      have hgk' : atI g k = gk := by omega
      rw [hgk'] at c1 r1
      have q1 : gk < h := by omega
      have HGK := hid hgk
      clear hgk hgk'
      rcases nearTo_cases (gd h l g x) k with ⟨hn1, rfl⟩ | ⟨b, hb, hbk⟩
      · rw [hn1]
        simp only [Nat.add_zero] at c1
        clear hn1 hgc he
        go_wp2_with fail
        (refine wp_region_calm (by kernel_rfl) (by kernel_rfl) ?_; (repeat (go_big_quiet_step ((go_at_call 62; exact (distance_any h _ _ _ l _ _ _ (HL.out.ext (by repeat (first | exact Ext.refl _ | refine Ext.alloc ?_ _ | assumption | refine Ext.over ?_ _ | refine Ext.drew ?_ | refine Ext.drewN ?_ _))) rfl h12 h7' HD.out (by assumption) (by assumption)).calm)))); refine wpQuiet_nil ?_; rintro w1 ⟨x1, rfl⟩)
        go_wp2_with fail
        go_roundw
        case rel => exact ⟨1, by omega, rfl, by rw [nearTo_first]; rfl, HE.out.trans (by repeat (first | exact Ext.refl _ | refine Ext.alloc ?_ _ | assumption | refine Ext.over ?_ _ | refine Ext.drew ?_ | refine Ext.drewN ?_ _)), by go_simp, by go_simp⟩
        case measure => simp [intOf]; omega
      · have c2 := hgc b (by omega)
        have r2 := HK2.out b (by omega)
        obtain ⟨gb', hgb⟩ : ∃ u : Nat, u = (atI g b).toNat := ⟨_, rfl⟩
        have hgb' : atI g b = gb' := by omega
        rw [hgb'] at c2 r2
        have q2 : gb' < h := by omega
        have HGB := hid hgb
        have HBB := hid hb
        rw [hb]
        clear hgb hgb' hgc he hb
        have hneg : decide ((b : Int) < 0) = false := by simp
        have hbl : b < g.length := by omega
        cases hlt2 : decide (dist h (adjD l) gk x < dist h (adjD l) gb' x)
        · have HQ := hid (nearTo_no (d := gd h l g x) HBB.out (show decide (dist h (adjD l) (atI g k).toNat x < dist h (adjD l) (atI g b).toNat x) = false by rw [← HGK.out, ← HGB.out]; exact hlt2))
          go_wp2_with fail
          (refine wp_region_calm (by kernel_rfl) (by kernel_rfl) ?_; (repeat (go_big_quiet_step ((go_at_call 62; exact (distance_any h _ _ _ l _ _ _ (HL.out.ext (by repeat (first | exact Ext.refl _ | refine Ext.alloc ?_ _ | assumption | refine Ext.over ?_ _ | refine Ext.drew ?_ | refine Ext.drewN ?_ _))) rfl h12 h7' HD.out (by assumption) (by assumption)).calm)))); refine wpQuiet_nil ?_; rintro w1 ⟨x1, rfl⟩)
          go_wp2_with fail
          go_roundw
          case rel => exact ⟨k + 1, by omega, by go_num, by rw [HQ.out], HE.out.trans (by repeat (first | exact Ext.refl _ | refine Ext.alloc ?_ _ | assumption | refine Ext.over ?_ _ | refine Ext.drew ?_ | refine Ext.drewN ?_ _)), by go_simp, by go_simp⟩
          case measure => simp [intOf]; omega
        · have HQ := hid (nearTo_yes (d := gd h l g x) HBB.out (show decide (dist h (adjD l) (atI g k).toNat x < dist h (adjD l) (atI g b).toNat x) = true by rw [← HGK.out, ← HGB.out]; exact hlt2))
          go_wp2_with fail
          (refine wp_region_calm (by kernel_rfl) (by kernel_rfl) ?_; (repeat (go_big_quiet_step ((go_at_call 62; exact (distance_any h _ _ _ l _ _ _ (HL.out.ext (by repeat (first | exact Ext.refl _ | refine Ext.alloc ?_ _ | assumption | refine Ext.over ?_ _ | refine Ext.drew ?_ | refine Ext.drewN ?_ _))) rfl h12 h7' HD.out (by assumption) (by assumption)).calm)))); refine wpQuiet_nil ?_; rintro w1 ⟨x1, rfl⟩)
          go_wp2_with fail
          go_roundw
          case rel => exact ⟨k + 1, by omega, by go_num, by rw [HQ.out], HE.out.trans (by repeat (first | exact Ext.refl _ | refine Ext.alloc ?_ _ | assumption | refine Ext.over ?_ _ | refine Ext.drew ?_ | refine Ext.drewN ?_ _)), by go_simp, by go_simp⟩
          case measure => simp [intOf]; omega
    · obtain rfl : k = g.length := by omega
      go_wp2_with fail
      go_ret
      exact ⟨by rw [HB.out]; rfl, HE.out⟩
end Go.Proofs.Ytngniniiohgilaa
/- Walks: DoorsFrom. Conditions: sizes. -/
namespace Go.Proofs.Ytngniniiohgilaa
open Go.RowKit
set_option linter.unusedVariables false

def doorsFrom (h : Int) (l : List T2) (x : Int) : List Int := if hasHall h l x = true then links l x h.toNat else []
theorem doorsFrom_no {h : Int} {l : List T2} {x : Int} (g : hasHall h l x = false) : doorsFrom h l x = [] := by unfold doorsFrom; rw [g]; simp
theorem doorsFrom_yes {h : Int} {l : List T2} {x : Int} (g : hasHall h l x = true) : doorsFrom h l x = links l x h.toNat := by unfold doorsFrom; rw [if_pos g]
theorem doorsFrom_len (h : Int) (l : List T2) (x : Int) : (doorsFrom h l x).length ≤ 7 := by
  unfold doorsFrom
  split
  · rename_i g
    obtain ⟨hk, _, _⟩ := hasHall_iff.1 g
    obtain ⟨_, _, h7, _⟩ := houseOk_bounds hk
    have := links_len l x h.toNat
    omega
  · simp
theorem own_nil (w : World) (base : Nat) (e : TypeId) (size : Nat) : w.ownsRow base e size (.slice none 0 0) 0 [] := ⟨by simp, .inl ⟨rfl, rfl⟩⟩
set_option maxRecDepth 100000 in
set_option maxHeartbeats 1600000 in
theorem iDoorsFrom_any (h : Int) (A : Option Addr) (n c : Nat) (l : List T2) (x : Int) (w : World) (hl : Row w A (l.flatMap T2.v)) (hn : l.length = n) (hx : n ≤ 1048577) :
    Calls Try.prog 11 #[.agg #[.int .i64 h, .slice A n c], .int .i64 x] w fun en w' => ∃ A' m' c', en = .returned (.slice A' m' c') ∧ w'.ownsRow w.heap.size 3 1 (.slice A' m' c') m' ((doorsFrom h l x).map (Value.int .i64)) ∧ Ext w w' := by
  subst hn
  cases hk : houseOk h l
  · have HB := hid (doorsFrom_no (show hasHall h l x = false by unfold hasHall; rw [hk]; rfl))
    go_enter Try.func11, Try.ntmps11
    go_wp2_with (go_at_call 15; refine (gives_b hk (iHouseOk_any _ _ _ _ l _ (hl.ext (by repeat (first | exact Ext.refl _ | refine Ext.alloc ?_ _ | assumption | refine Ext.over ?_ _ | refine Ext.drew ?_ | refine Ext.drewN ?_ _))) rfl hx)).over.mono ?_; rintro e w' ⟨rfl, xw, rfl⟩)
    go_ret
    rw [HB.out]
    exact ⟨_, _, _, rfl, own_nil _ _ _ _, by repeat (first | exact Ext.refl _ | refine Ext.alloc ?_ _ | assumption | refine Ext.over ?_ _ | refine Ext.drew ?_ | refine Ext.drewN ?_ _)⟩
  obtain ⟨hd, h1, h7, h12⟩ := houseOk_bounds hk
  have HD := hid hd
  clear hd
  cases ha : btw x 0 (h - 1)
  · have HB := hid (doorsFrom_no (show hasHall h l x = false by unfold hasHall; rw [ha]; simp))
    go_enter Try.func11, Try.ntmps11
    go_wp2_with (first | (go_at_call 15; refine (gives_b hk (iHouseOk_any _ _ _ _ l _ (hl.ext (by repeat (first | exact Ext.refl _ | refine Ext.alloc ?_ _ | assumption | refine Ext.over ?_ _ | refine Ext.drew ?_ | refine Ext.drewN ?_ _))) rfl hx)).over.mono ?_; rintro e w' ⟨rfl, xw, rfl⟩) | (go_at_call 42; refine (gives_b ha (isHall_any _ _ _ _ _ _ h1 h7)).over.mono ?_; rintro e w' ⟨rfl, xw, rfl⟩))
    go_ret
    rw [HB.out]
    exact ⟨_, _, _, rfl, own_nil _ _ _ _, by repeat (first | exact Ext.refl _ | refine Ext.alloc ?_ _ | assumption | refine Ext.over ?_ _ | refine Ext.drew ?_ | refine Ext.drewN ?_ _)⟩
  have HB := hid (doorsFrom_yes (show hasHall h l x = true by unfold hasHall; rw [hk, ha]; rfl))
  obtain ⟨h, rfl⟩ : ∃ k : Nat, h = k := ⟨h.toNat, by omega⟩
  go_enter Try.func11, Try.ntmps11
  go_wp2_with (first | (go_at_call 15; refine (gives_b hk (iHouseOk_any _ _ _ _ l _ (hl.ext (by repeat (first | exact Ext.refl _ | refine Ext.alloc ?_ _ | assumption | refine Ext.over ?_ _ | refine Ext.drew ?_ | refine Ext.drewN ?_ _))) rfl hx)).over.mono ?_; rintro e w' ⟨rfl, xw, rfl⟩) | (go_at_call 42; refine (gives_b ha (isHall_any _ _ _ _ _ _ h1 h7)).over.mono ?_; rintro e w' ⟨rfl, xw, rfl⟩))
  refine (linksOf_any h A l.length c l x _ (hl.ext (by repeat (first | exact Ext.refl _ | refine Ext.alloc ?_ _ | assumption | refine Ext.over ?_ _ | refine Ext.drew ?_ | refine Ext.drewN ?_ _))) rfl h12 (by omega) HD.out).mono ?_
  rintro _ w1 ⟨A1, m1, c1, rfl, ho, he⟩
  have E1 := hid (Ext.trans (show Ext w _ by repeat (first | exact Ext.refl _ | refine Ext.alloc ?_ _ | assumption | refine Ext.over ?_ _ | refine Ext.drew ?_ | refine Ext.drewN ?_ _)) he)
  have HO := hid (own_base (base' := w.heap.size) ho (show Ext w _ by repeat (first | exact Ext.refl _ | refine Ext.alloc ?_ _ | assumption | refine Ext.over ?_ _ | refine Ext.drew ?_ | refine Ext.drewN ?_ _)).size)
  clear ho he
  go_wp2_with fail
  go_ret
  rw [HB.out, Int.toNat_natCast]
  exact ⟨_, _, _, rfl, HO.out, E1.out⟩
theorem links_self {h : Int} {l : List T2} (hf : doorsOk h l = true) {k x : Nat} : (decide (¬ (k : Int) = x) && hasD l k x) = hasD l x k := by
  by_cases hkx : k = x
  · subst hkx
    have : hasD l k k = false := by
      refine hasD_no fun j hj => ?_
      have h1 := allN_iff.1 hf j hj
      unfold doorAt at h1
      simp only [Bool.and_eq_true, Bool.not_eq_true'] at h1
      have h2 := h1.1
      unfold badD at h2
      simp only [Bool.or_eq_false_iff, decide_eq_false_iff_not] at h2
      unfold isD
      rw [Int.min_self, Int.max_self, Bool.and_eq_false_iff, beq_eq_false_iff_ne, beq_eq_false_iff_ne]
      omega
    rw [this]; simp
  · rw [decide_eq_true (by omega), hasD_symm]; rfl
set_option maxRecDepth 100000 in
set_option maxHeartbeats 1600000 in
theorem sDoorsFrom_any (h : Int) (A : Option Addr) (n c : Nat) (l : List T2) (x : Int) (w : World) (hl : Row w A (l.flatMap T2.v)) (hn : l.length = n) (hx : n ≤ 1048577) :
    Calls Try.prog 19 #[.agg #[.int .i64 h, .slice A n c], .int .i64 x] w fun en w' => ∃ A' m' c', en = .returned (.slice A' m' c') ∧ w'.ownsRow w.heap.size 3 1 (.slice A' m' c') m' ((doorsFrom h l x).map (Value.int .i64)) ∧ Ext w w' := by
  subst hn
  cases ha : hasHall h l x
  · have HB := hid (doorsFrom_no ha)
    go_enter Try.func19, Try.ntmps19
    go_wp2_with fail
    have HO := hid (own_empty (w.alloc (.cells #[.int .i64 h, .slice A l.length c] 26)) (w.heap.size + 1) w.heap.size (by simp) (by simp) 3 1)
    go_loopw [5, 6] (fun o i wr => i = .int .i64 0 ∧ o = .slice (some ⟨w.heap.size + 1, 0, none⟩) 0 0 ∧ wr = (w.alloc (.cells #[.int .i64 h, .slice A l.length c] 26)).alloc (.cells #[] 3)) (fun _ _ _ => 0)
    case atStart => exact ⟨rfl, by simp, rfl⟩
    case round =>
      obtain ⟨rfl, rfl, rfl⟩ := hrel
      by_cases h0 : 0 < h
      · go_wp2_with (go_at_call 54; refine (gives_b ha (l23Has_any _ _ _ _ l _ _ (hl.ext (by repeat (first | exact Ext.refl _ | refine Ext.alloc ?_ _ | assumption | refine Ext.over ?_ _ | refine Ext.drew ?_ | refine Ext.drewN ?_ _))) rfl hx)).over.mono ?_; rintro e w' ⟨rfl, xw, rfl⟩)
        go_ret
        rw [HB.out]
        exact ⟨_, _, _, rfl, own_ext HO.out (by repeat (first | exact Ext.refl _ | refine Ext.alloc ?_ _ | assumption | refine Ext.over ?_ _ | refine Ext.drew ?_ | refine Ext.drewN ?_ _)), by repeat (first | exact Ext.refl _ | refine Ext.alloc ?_ _ | assumption | refine Ext.over ?_ _ | refine Ext.drew ?_ | refine Ext.drewN ?_ _)⟩
      · go_wp2_with fail
        go_ret
        rw [HB.out]
        exact ⟨_, _, _, rfl, HO.out, by repeat (first | exact Ext.refl _ | refine Ext.alloc ?_ _ | assumption | refine Ext.over ?_ _ | refine Ext.drew ?_ | refine Ext.drewN ?_ _)⟩
  have HB := hid (doorsFrom_yes ha)
  obtain ⟨hk, a0, a1⟩ := hasHall_iff.1 ha
  obtain ⟨hdo, h1, h7, h12⟩ := houseOk_bounds hk
  obtain ⟨h, rfl⟩ : ∃ k : Nat, h = k := ⟨h.toNat, by omega⟩
  obtain ⟨x, rfl⟩ : ∃ k : Nat, x = k := ⟨x.toNat, by omega⟩
  have HD := hid hdo
  have HA := hid ha
  clear hk hdo ha
  obtain ⟨wb, hwb⟩ : ∃ wb, wb = w.alloc (.cells #[.int .i64 ↑h, .slice A l.length c] 26) := ⟨_, rfl⟩
  have hew : Ext w wb := by rw [hwb]; repeat (first | exact Ext.refl _ | refine Ext.alloc ?_ _ | assumption | refine Ext.over ?_ _ | refine Ext.drew ?_ | refine Ext.drewN ?_ _)
  have hsz := hid (show wb.heap.size = w.heap.size + 1 by rw [hwb]; simp)
  have hb0 : wb.cell? ⟨w.heap.size, 0, none⟩ = some (.int .i64 ↑h) := by rw [hwb]; go_simp
  have hb1 : wb.cell? ⟨w.heap.size, 1, none⟩ = some (.slice A l.length c) := by rw [hwb]; go_simp
  go_enter Try.func19, Try.ntmps19
  go_wp2_with fail
  go_loopw [5, 6] (fun o i wr => ∃ (k : Nat) (A' : Option Addr) (m' c' : Nat), k ≤ h ∧ m' ≤ k ∧ i = .int .i64 ↑k ∧ o = .slice A' m' c' ∧ wr.ownsRow wb.heap.size 3 1 (.slice A' m' c') m' ((idxs (fun i => hasD l x i) k).map (Value.int .i64)) ∧ Ext wb wr) (fun _ i _ => (h - (intOf i).toNat))
  case atStart =>
    refine ⟨0, _, _, _, by omega, by omega, rfl, rfl, by rw [hwb]; exact own_empty _ _ _ (by simp) (by simp) _ _, by rw [hwb]; repeat (first | exact Ext.refl _ | refine Ext.alloc ?_ _ | assumption | refine Ext.over ?_ _ | refine Ext.drew ?_ | refine Ext.drewN ?_ _)⟩
  clear hwb
  case round =>
    obtain ⟨k, A', m', c', hk, hm, rfl, rfl, hown, he⟩ := hrel
    obtain ⟨x0, rfl⟩ := he.ex
    have b0 := old_cell he hb0
    have b1 := old_cell he hb1
    have HO := hid hown
    have HR := hid (hl.ext (hew.trans he))
    have HS := hid (links_self HD.out (k := k) (x := x))
    clear hown he
    by_cases hlt : k < h
    · by_cases hkx : k = x
      · have hne : ((k : Int) != (x : Int)) = false := by rw [hkx]; simp
        have HI := hid (idxs_no (p := fun i => hasD l x i) (k := k) (by rw [← HS.out, decide_eq_false (by omega)]; rfl))
        clear hkx
        go_wp2_with (go_at_call 54; refine (gives_b HA.out (l23Has_any _ _ _ _ l _ _ (HR.out.ext (by repeat (first | exact Ext.refl _ | refine Ext.alloc ?_ _ | assumption | refine Ext.over ?_ _ | refine Ext.drew ?_ | refine Ext.drewN ?_ _))) rfl hx)).over.mono ?_; rintro e w' ⟨rfl, xw, rfl⟩)
        go_roundw
        case rel => exact ⟨k + 1, _, m', c', by omega, by omega, by go_num, rfl, by rw [HI.out]; exact own_ext HO.out (by repeat (first | exact Ext.refl _ | refine Ext.alloc ?_ _ | assumption | refine Ext.over ?_ _ | refine Ext.drew ?_ | refine Ext.drewN ?_ _)), by repeat (first | exact Ext.refl _ | refine Ext.alloc ?_ _ | assumption | refine Ext.over ?_ _ | refine Ext.drew ?_ | refine Ext.drewN ?_ _)⟩
        case measure => simp [intOf]; omega
      have hne : ((k : Int) != (x : Int)) = true := by rw [bne_iff_ne]; omega
      cases hdr : hasD l k x
      · have HI := hid (idxs_no (p := fun i => hasD l x i) (k := k) (by rw [← HS.out, hdr]; simp))
        go_wp2_with (first | (go_at_call 54; refine (gives_b HA.out (l23Has_any _ _ _ _ l _ _ (HR.out.ext (by repeat (first | exact Ext.refl _ | refine Ext.alloc ?_ _ | assumption | refine Ext.over ?_ _ | refine Ext.drew ?_ | refine Ext.drewN ?_ _))) rfl hx)).over.mono ?_; rintro e w' ⟨rfl, xw, rfl⟩) | (go_at_call 55; refine (gives_b hdr (l23Door_any _ _ _ _ l _ _ _ (HR.out.ext (by repeat (first | exact Ext.refl _ | refine Ext.alloc ?_ _ | assumption | refine Ext.over ?_ _ | refine Ext.drew ?_ | refine Ext.drewN ?_ _))) rfl hx)).over.mono ?_; rintro e w' ⟨rfl, xw, rfl⟩))
        go_roundw
        case rel => exact ⟨k + 1, _, m', c', by omega, by omega, by go_num, rfl, by rw [HI.out]; exact own_ext HO.out (by repeat (first | exact Ext.refl _ | refine Ext.alloc ?_ _ | assumption | refine Ext.over ?_ _ | refine Ext.drew ?_ | refine Ext.drewN ?_ _)), by repeat (first | exact Ext.refl _ | refine Ext.alloc ?_ _ | assumption | refine Ext.over ?_ _ | refine Ext.drew ?_ | refine Ext.drewN ?_ _)⟩
        case measure => simp [intOf]; omega
      · have HI := hid (idxs_yes (p := fun i => hasD l x i) (k := k) (by rw [← HS.out, hdr, decide_eq_true (by omega)]; rfl))
        go_wp2_with (first | (go_at_call 54; refine (gives_b HA.out (l23Has_any _ _ _ _ l _ _ (HR.out.ext (by repeat (first | exact Ext.refl _ | refine Ext.alloc ?_ _ | assumption | refine Ext.over ?_ _ | refine Ext.drew ?_ | refine Ext.drewN ?_ _))) rfl hx)).over.mono ?_; rintro e w' ⟨rfl, xw, rfl⟩) | (go_at_call 55; refine (gives_b hdr (l23Door_any _ _ _ _ l _ _ _ (HR.out.ext (by repeat (first | exact Ext.refl _ | refine Ext.alloc ?_ _ | assumption | refine Ext.over ?_ _ | refine Ext.drew ?_ | refine Ext.drewN ?_ _))) rfl hx)).over.mono ?_; rintro e w' ⟨rfl, xw, rfl⟩) | (at_builtin; refine wpList_push (wb) rfl (.tmp 28) (.tmp 30) 31 rfl 3 Try.underlying31 info_int rfl (by decide) _ m' _ rfl (ovr wb x0) HO.out (by repeat (first | exact Ext.refl _ | refine Ext.alloc ?_ _ | assumption | refine Ext.over ?_ _ | refine Ext.drew ?_ | refine Ext.drewN ?_ _)) (by repeat (first | exact Ext.refl _ | refine Ext.alloc ?_ _ | assumption | refine Ext.over ?_ _ | refine Ext.drew ?_ | refine Ext.drewN ?_ _)) _ 1 1 [.int .i64 (k)] rfl rfl (lit_cells _ _ (by first | (simp; done) | simp [ovr_size]) _ _) (by intro u hu; simp at hu; subst hu; rfl) (by omega) (by decide) ?_))
        intro A3 c3 w3 hown3 he3
        have HO3 := hid hown3
        clear hown3 HO
        go_wp2_with fail
        go_roundw
        case rel => exact ⟨k + 1, A3, m' + 1, c3, by omega, by omega, by go_num, rfl, by rw [HI.out]; simpa using HO3.out, he3⟩
        case measure => simp [intOf]; omega
    · go_wp2_with fail
      go_ret
      obtain rfl : k = h := by omega
      rw [HB.out, Int.toNat_natCast]
      exact ⟨_, _, _, rfl, own_base HO.out (by have := hsz.out; omega), hew.trans (by repeat (first | exact Ext.refl _ | refine Ext.alloc ?_ _ | assumption | refine Ext.over ?_ _ | refine Ext.drew ?_ | refine Ext.drewN ?_ _))⟩
end Go.Proofs.Ytngniniiohgilaa
/- Plain law: how many guards a search needs. No condition but at most seven halls. -/
namespace Go.Proofs.Ytngniniiohgilaa
open Go.RowKit
set_option linter.unusedVariables false

/-- Trying all orders finds nothing worse than any order that begins so. -/
theorem bst_le (l : List T2) (h : Nat) : ∀ (r : Nat) (b t : List Nat), Beg h (b ++ t) → t.length = r → r + b.length = h → (bst l h r b).2 ≤ forTo l h (ci (b ++ t)) h
  | 0, b, t, hb, ht, hl => by
    obtain rfl : t = [] := List.eq_nil_of_length_eq_zero ht
    rw [List.append_nil]
    show forTo l h (ci b) b.length ≤ _
    rw [show b.length = h by omega]
    exact Int.le_refl _
  | r + 1, b, t, hb, ht, hl => by
    match t, ht with
    | x :: t, ht =>
      have hbx : Beg h b := ⟨(List.nodup_append.1 hb.1).1, fun y hy => hb.2 y (List.mem_append.2 (.inl hy))⟩
      have hx : x < h := hb.2 x (by simp)
      have hc : b.contains x = false := by
        rcases hc : b.contains x with _ | _
        · rfl
        · exact absurd rfl ((List.nodup_append.1 hb.1).2.2 x (List.contains_iff_mem.1 hc) x (by simp))
      have ih := bst_le l h r (b ++ [x]) t (by simpa using hb) (by simpa using ht) (by simp; omega)
      rw [List.append_assoc, List.singleton_append] at ih
      rw [bst_succ]
      rcases accTo_spec (bstF l h r b) h with ⟨_, h2⟩ | ⟨j, y, hj, hy, ha, h1, _⟩
      · exfalso
        have := h2 x hx
        unfold bstF at this
        rw [hc] at this
        simp at this
      · rw [ha]
        have := h1 x _ hx (show bstF l h r b x = some (bst l h r (b ++ [x])) by unfold bstF; rw [hc]; simp)
        show y.2 ≤ _
        omega
/-- What every step of an order asks is asked of the order. -/
theorem forTo_ge (l : List T2) (h : Nat) (o : List Int) : ∀ {k i : Nat}, i < k → fTo l h o i ≤ forTo l h o k
  | k + 1, i, hi => by
    show _ ≤ max (forTo l h o k) (fTo l h o k)
    rcases Nat.lt_or_ge i k with h1 | h1
    · have := forTo_ge l h o h1; omega
    · obtain rfl : i = k := by omega
      omega
theorem forTo_le {l : List T2} {h : Nat} {o : List Int} {m : Int} : ∀ {k : Nat}, 0 ≤ m → (∀ i, i < k → fTo l h o i ≤ m) → forTo l h o k ≤ m
  | 0, hm, _ => hm
  | k + 1, hm, h1 => by
    show max (forTo l h o k) (fTo l h o k) ≤ m
    have := forTo_le (k := k) hm (fun i hi => h1 i (by omega))
    have := h1 k (by omega)
    omega
/-- The number of doors of a hall. -/
def deg (l : List T2) (h a : Nat) : Nat := ((List.range h).filter fun b : Nat => hasD l a b).length
theorem deg_links (l : List T2) (h a : Nat) : (links l a h).length = deg l h a := by unfold links deg idxs; simp
theorem gaL_count (u : Nat → Bool) (l : List T2) (h : Nat) : (gaL u l h).length = ((List.range h).filter (gaP u l h)).length := by unfold gaL idxs; simp
theorem count_le {n : Nat} {p : Nat → Bool} {L : List Nat} (h : ∀ a, a < n → p a = true → a ∈ L) : ((List.range n).filter p).length ≤ L.length := by
  refine List.Nodup.length_le_of_subset (List.Pairwise.filter _ List.nodup_range) fun a ha => ?_
  rw [List.mem_filter, List.mem_range] at ha
  exact h a ha.1 ha.2
theorem count_ge {n : Nat} {p : Nat → Bool} {L : List Nat} (hd : L.Nodup) (h : ∀ a ∈ L, a < n ∧ p a = true) : L.length ≤ ((List.range n).filter p).length := by
  refine List.Nodup.length_le_of_subset hd fun a ha => ?_
  rw [List.mem_filter, List.mem_range]
  exact h a ha
/-- A guard stands in a hall that has been searched. -/
theorem fTo_le {l : List T2} {h : Nat} {b : List Nat} (i : Nat) (hi : i ≤ b.length) : fTo l h (ci b) i ≤ (i : Int) + 1 := by
  unfold fTo
  rw [gaL_count]
  have := count_le (n := h) (p := gaP (memN ((ci b).take i)) l h) (L := b.take i) (fun a _ hp => by
    unfold gaP memN at hp
    rw [Bool.and_eq_true, memI_iff] at hp
    have h1 := hp.1
    unfold ci at h1
    rw [← List.map_take, List.mem_map] at h1
    obtain ⟨x, hx, e⟩ := h1
    have : x = a := by exact_mod_cast e
    exact this ▸ hx)
  rw [List.length_take] at this
  omega
/-- All orders need more guards than the hall with the fewest doors has doors. -/
theorem need_deg {l : List T2} {h : Nat} {b : List Nat} (hf : doorsOk h l = true) (hb : Beg h b) (hl : b.length = h) (h1 : 1 ≤ h) : ∃ v, v < h ∧ (deg l h v : Int) + 1 ≤ forTo l h (ci b) h := by
  -- the least t such that some hall of the first t has all its neighbours among them
  have hex : ∃ t, t ≤ h ∧ ∃ v ∈ b.take t, openTo (memN ((ci b).take t)) l h v = false := by
    refine ⟨h, Nat.le_refl _, ?_⟩
    match b, hl with
    | [], hl => simp at hl; omega
    | x :: b', hl =>
      refine ⟨x, by rw [List.take_of_length_le (by omega)]; simp, ?_⟩
      unfold openTo
      rw [List.any_eq_false]
      intro y hy
      rw [List.mem_range] at hy
      have hm := hb.full hl y hy
      have : memN ((ci (x :: b')).take h) y = true := by
        unfold memN
        rw [List.take_of_length_le (by rw [ci_len]; omega), ci_mem]
        exact List.contains_iff_mem.2 hm
      rw [this]; simp
  obtain ⟨t, ⟨ht, v, hv, hop⟩, hmin⟩ := exists_least hex
  have ht0 : 0 < t := by
    rcases Nat.eq_zero_or_pos t with h0 | h0
    · subst h0; simp at hv
    · exact h0
  obtain ⟨s, rfl⟩ : ∃ s, t = s + 1 := ⟨t - 1, by omega⟩
  have hvb : v ∈ b := List.mem_of_mem_take hv
  refine ⟨v, hb.2 v hvb, ?_⟩
  have hge := forTo_ge l h (ci b) (k := h) (i := s) (by omega)
  -- all of the first s have an open door
  have hs : (s : Int) ≤ (gaL (memN ((ci b).take s)) l h).length := by
    rw [gaL_count]
    have := count_ge (n := h) (p := gaP (memN ((ci b).take s)) l h) (L := b.take s) (hb.1.sublist (List.take_sublist _ _)) (fun a ha => by
      refine ⟨hb.2 a (List.mem_of_mem_take ha), ?_⟩
      unfold gaP
      rw [Bool.and_eq_true]
      constructor
      · unfold memN
        rw [memI_iff]
        unfold ci
        rw [← List.map_take]
        exact List.mem_map.2 ⟨a, ha, rfl⟩
      · rcases hc : openTo (memN ((ci b).take s)) l h a with _ | _
        · have := hmin s ⟨by omega, a, ha, hc⟩; omega
        · rfl)
    rw [List.length_take] at this
    omega
  -- the neighbours of v are among the first s + 1, and v itself is none of them
  have hd : deg l h v ≤ s := by
    unfold deg
    have := count_le (n := h) (p := fun y => hasD l v y) (L := (b.take (s + 1)).filter fun y => decide (y ≠ v)) (fun y hy hp => by
      rw [List.mem_filter, decide_eq_true_eq]
      constructor
      · unfold openTo at hop
        rw [List.any_eq_false] at hop
        have h2 := hop y (List.mem_range.2 hy)
        rw [hp, Bool.true_and, Bool.not_eq_true', Bool.not_eq_false] at h2
        unfold memN at h2
        rw [memI_iff] at h2
        unfold ci at h2
        rw [← List.map_take, List.mem_map] at h2
        obtain ⟨x, hx, e⟩ := h2
        have : x = y := by exact_mod_cast e
        exact this ▸ hx
      · rintro rfl
        have h3 := links_self hf (k := y) (x := y)
        simp only [decide_not, decide_true, Bool.not_true, Bool.false_and] at h3
        rw [hp] at h3
        cases h3)
    have h4 : ((b.take (s + 1)).filter fun y => decide (y ≠ v)).length + 1 ≤ (b.take (s + 1)).length := by
      have h5 := List.length_filter_lt_length_iff_exists (p := fun y => decide (y ≠ v)) (l := b.take (s + 1))
      have h6 := h5.2 ⟨v, hv, by simp⟩
      omega
    rw [List.length_take] at h4
    omega
  have : fTo l h (ci b) s = (gaL (memN ((ci b).take s)) l h).length + 1 := rfl
  omega
/-- In a valid house of two halls or more every hall has a door. -/
theorem deg_pos {l : List T2} {h a : Nat} (g : houseOk h l = true) (ha : a < h) (h2 : 2 ≤ h) : 1 ≤ deg l h a := by
  obtain ⟨b, hb, hne⟩ : ∃ b, b < h ∧ b ≠ a := by
    rcases Nat.eq_zero_or_pos a with h0 | h0
    · exact ⟨1, by omega, by omega⟩
    · exact ⟨0, by omega, by omega⟩
  have hr := reach_all g ha hb
  have hpos : 0 < dist h (adjD l) a b := by
    rcases Int.lt_or_le 0 (dist h (adjD l) a b) with h1 | h1
    · exact h1
    · exact absurd (dist_zero (n := h) (adj := adjD l) (a := a) ha (v := b) (by omega)) hne
  obtain ⟨k, hk, hadj, _⟩ := near_step (adj := adjD l) (adjD_symm l) ha hb hpos
  unfold deg
  have : k ∈ (List.range h).filter fun b : Nat => hasD l a b := by
    rw [List.mem_filter, List.mem_range]
    exact ⟨hk, by rw [hasD_symm]; exact hadj⟩
  exact List.length_pos_of_mem this
end Go.Proofs.Ytngniniiohgilaa
/- Walks: how many halls of a set have an open door. Conditions: at most seven halls. -/
namespace Go.Proofs.Ytngniniiohgilaa
open Go.RowKit
set_option linter.unusedVariables false

def openB (u : Nat → Bool) (l : List T2) (a b : Nat) : Bool := (List.range b).any fun b => hasD l a b && !u b
theorem openB_all (u : Nat → Bool) (l : List T2) (h a : Nat) : openB u l a h = openTo u l h a := rfl
theorem openB_succ (u : Nat → Bool) (l : List T2) (a b : Nat) : openB u l a (b + 1) = (openB u l a b || (hasD l a b && !u b)) := by unfold openB; rw [List.range_succ, List.any_append]; simp
theorem openB_keep {u : Nat → Bool} {l : List T2} {a b : Nat} (h : openB u l a b = true) : openB u l a (b + 1) = true := by rw [openB_succ, h]; rfl
theorem openB_in {u : Nat → Bool} {l : List T2} {a b : Nat} (h : openB u l a b = false) (hu : u b = true) : openB u l a (b + 1) = false := by rw [openB_succ, h, hu]; simp
theorem openB_out {u : Nat → Bool} {l : List T2} {a b : Nat} (h : openB u l a b = false) (hu : u b = false) : openB u l a (b + 1) = hasD l a b := by rw [openB_succ, h, hu]; simp
theorem ga_no {u : Nat → Bool} {l : List T2} {h a : Nat} (hu : u a = false) : gaP u l h a = false := by unfold gaP; rw [hu]; rfl
theorem ga_at {u : Nat → Bool} {l : List T2} {h a : Nat} (hu : u a = true) : gaP u l h a = openB u l a h := by unfold gaP; rw [hu]; rfl
set_option maxHeartbeats 3200000 in
set_option maxRecDepth 100000 in
theorem border_any (h : Nat) (A : Option Addr) (n c : Nat) (l : List T2) (S : Nat) (w : World) (hl : Row w A (l.flatMap T2.v)) (hn : l.length = n) (hx : n ≤ 1048577) (h7 : h ≤ 7) (hS : S < 128) :
    Gives Try.prog 67 #[.agg #[.int .i64 h, .slice A n c], .int .i64 S] w (.int .i64 (gaL S.testBit l h).length) := by
  subst hn
  have hS2 : S < 256 := by omega
  (unfold Gives; go_enter Try.func67, Try.ntmps67)
  go_wp2_with fail
  go_loopw [5, 6] (fun o i wr => ∃ (a : Nat), a ≤ h ∧ i = .int .i64 ↑a ∧ o = .int .i64 (idxs (gaP S.testBit l h) a).length ∧ Ext w wr ∧ wr.cell? ⟨w.heap.size, 0, none⟩ = some (.int .i64 h) ∧ wr.cell? ⟨w.heap.size, 1, none⟩ = some (.slice A l.length c)) (fun _ i _ => (h - (intOf i).toNat))
  case atStart => exact ⟨0, by omega, rfl, rfl, by repeat (first | exact Ext.refl _ | refine Ext.alloc ?_ _ | assumption | refine Ext.over ?_ _ | refine Ext.drew ?_ | refine Ext.drewN ?_ _), by go_simp, by go_simp⟩
  case round =>
    obtain ⟨a, ha, rfl, rfl, he, b0, b1⟩ := hrel
    have HE := hid he
    have HL := hid (hl.ext he)
    have hcl := idxs_len (gaP S.testBit l h) a
    obtain ⟨m, hm⟩ : ∃ m, m = (idxs (gaP S.testBit l h) a).length := ⟨_, rfl⟩
    rw [← hm] at hcl ⊢
    have HM := hid hm
    clear hm he
    by_cases hlt : a < h
    · rename World => wo
      cases hba : S.testBit a
      · obtain ⟨e0, e1⟩ := bit_no hS2 hba
        have HI := hid (idxs_no (p := gaP S.testBit l h) (k := a) (ga_no hba))
        go_wp2_with fail
        go_loopw [7, 8] (fun o i wr => i = .int .i64 0 ∧ o = .bool false ∧ wr = wo) (fun _ _ _ => 0)
        case atStart => exact ⟨rfl, rfl, rfl⟩
        case round =>
          obtain ⟨rfl, rfl, rfl⟩ := hrel
          go_wp2_with fail
          go_roundw
          case rel => exact ⟨a + 1, by omega, by go_num, by rw [HI.out, ← HM.out], HE.out, b0, b1⟩
          case measure => simp [intOf]; omega
      · obtain ⟨e0, e1⟩ := bit_yes hS2 hba
        have HG := hid (ga_at (l := l) (h := h) hba)
        go_wp2_with fail
        go_loopw [7, 8] (fun o i wr => ∃ (b : Nat), b ≤ h ∧ i = .int .i64 ↑b ∧ o = .bool (openB S.testBit l a b) ∧ Ext wo wr) (fun _ i _ => h - (intOf i).toNat)
        case atStart => exact ⟨0, by omega, rfl, rfl, Ext.refl _⟩
        case round =>
          obtain ⟨b, hb, rfl, rfl, he2⟩ := hrel
          have p0 := old_cell he2 b0
          have p1 := old_cell he2 b1
          have HE2 := hid (HE.out.trans he2)
          have HE3 := hid he2
          have HL2 := hid (HL.out.ext he2)
          clear he2 b0 b1
          by_cases hblt : b < h
          · cases hop : openB S.testBit l a b
            · cases hbb : S.testBit b
              · obtain ⟨f0, f1⟩ := bit_no (k := b) hS2 hbb
                have HO := hid (openB_out hop hbb)
                go_wp2_with (go_at_call 55; refine (l23Door_any _ _ _ _ l _ _ _ (HL2.out.ext (by repeat (first | exact Ext.refl _ | refine Ext.alloc ?_ _ | assumption | refine Ext.over ?_ _ | refine Ext.drew ?_ | refine Ext.drewN ?_ _))) rfl hx).over.mono ?_; rintro e w' ⟨rfl, xw, rfl⟩)
                all_goals
                  go_roundw
                  case rel => exact ⟨b + 1, by omega, by go_num, by rw [HO.out], HE3.out.trans (by repeat (first | exact Ext.refl _ | refine Ext.alloc ?_ _ | assumption | refine Ext.over ?_ _ | refine Ext.drew ?_ | refine Ext.drewN ?_ _))⟩
                  case measure => simp [intOf]; omega
              · obtain ⟨f0, f1⟩ := bit_yes (k := b) hS2 hbb
                have HO := hid (openB_in hop hbb)
                go_wp2_with fail
                go_roundw
                case rel => exact ⟨b + 1, by omega, by go_num, by rw [HO.out], HE3.out.trans (by repeat (first | exact Ext.refl _ | refine Ext.alloc ?_ _ | assumption | refine Ext.over ?_ _ | refine Ext.drew ?_ | refine Ext.drewN ?_ _))⟩
                case measure => simp [intOf]; omega
            · have HO := hid (openB_keep hop)
              go_wp2_with fail
              go_roundw
              case rel => exact ⟨b + 1, by omega, by go_num, by rw [HO.out], HE3.out.trans (by repeat (first | exact Ext.refl _ | refine Ext.alloc ?_ _ | assumption | refine Ext.over ?_ _ | refine Ext.drew ?_ | refine Ext.drewN ?_ _))⟩
              case measure => simp [intOf]; omega
          · obtain rfl : b = h := by omega
            cases hop : openB S.testBit l a b
            · have HI := hid (idxs_no (p := gaP S.testBit l b) (k := a) (by rw [HG.out, hop]))
              go_wp2_with fail
              go_roundw
              case rel => exact ⟨a + 1, by omega, by go_num, by rw [HI.out, ← HM.out], HE2.out.trans (by repeat (first | exact Ext.refl _ | refine Ext.alloc ?_ _ | assumption | refine Ext.over ?_ _ | refine Ext.drew ?_ | refine Ext.drewN ?_ _)), by go_simp, by go_simp⟩
              case measure => simp [intOf]; omega
            · have HI := hid (idxs_yes (p := gaP S.testBit l b) (k := a) (by rw [HG.out, hop]))
              go_wp2_with fail
              go_roundw
              case rel => exact ⟨a + 1, by omega, by go_num, by rw [HI.out, List.length_append, ← HM.out]; simp, HE2.out.trans (by repeat (first | exact Ext.refl _ | refine Ext.alloc ?_ _ | assumption | refine Ext.over ?_ _ | refine Ext.drew ?_ | refine Ext.drewN ?_ _)), by go_simp, by go_simp⟩
              case measure => simp [intOf]; omega
    · obtain rfl : a = h := by omega
      go_wp2_with fail
      go_ret
      exact ⟨by unfold gaL; rw [← HM.out]; rfl, HE.out⟩
end Go.Proofs.Ytngniniiohgilaa
/-
  As XHer, for a statement whose last operation stores into memory: that one is asked nothing of later worlds. Condition: a Bool on the statement's text, by the kernel.
-/
namespace Go.Proofs.Ytngniniiohgilaa
open Go.RowKit
set_option linter.unusedVariables false

section
variable {P : Program} {ops : Array Oper} {md : Region.Mode} {R : World → World → Prop}

/-- The tail: the last operation leads to the post. -/
def wpT2 (P : Program) (ops : Array Oper) (R : World → World → Prop) (Q : Act → World → Prop) : List Oper → Act → World → Prop
  | [], _, _ => False
  | [o], a, w => ∀ w', R w w' → if Region.wanted o (yielded ops a.tmps) then herOp P o a w' Q else Q (a.put o.dst undef) w'
  | o :: o' :: rest, a, w => ∀ w', R w w' → if Region.wanted o (yielded ops a.tmps) then herOp P o a w' (fun a'' w'' => R w' w'' ∧ wpT2 P ops R Q (o' :: rest) a'' w'') else wpT2 P ops R Q (o' :: rest) (a.put o.dst undef) w'
def wpHer2 (P : Program) (md : Region.Mode) (ops : Array Oper) (R : World → World → Prop) (tl : Nat) (Q : Act → World → Prop) : Nat → Array Bool → Act → World → Prop
  | 0, _, _, _ => False
  | fuel + 1, listed, a, w => ∀ w', R w w' → Region.ready md ops listed ≠ [] ∧
      ∀ i ∈ Region.ready md ops listed, herAt P ops i (fun a'' w'' => if i = tl then Region.ready md ops (listed.setIfInBounds i true) = [] ∧ Q a'' w'' else R w' w'' ∧ wpHer2 P md ops R tl Q fuel (listed.setIfInBounds i true) a'' w'') a w'
theorem wpHer2_later (hR : Steady R) {tl : Nat} {Q : Act → World → Prop} {fuel : Nat} {listed : Array Bool} {a : Act} {w w' : World} (h : wpHer2 P md ops R tl Q fuel listed a w) (hw : R w w') : wpHer2 P md ops R tl Q fuel listed a w' := by
  cases fuel with
  | zero => exact h.elim
  | succ n => exact fun w2 h2 => h w2 (hR.2 _ _ _ hw h2)
theorem wpAny_of_her2 (hR : Steady R) {tl : Nat} {Q : Act → World → Prop} {Q' : Exit → Act → World → Prop} (hQ : ∀ a w, Q a w → Q' .normal a w) : ∀ (fuel : Nat) (listed : Array Bool) (a : Act) (w : World),
    wpHer2 P md ops R tl Q fuel listed a w → wpAny P md ops Q' fuel listed a w
  | 0, _, _, _, h => h.elim
  | fuel + 1, _, _, w, h => ⟨fun h0 => absurd h0 (h w (hR.1 w)).1, fun i hi => wpOp_of_herAt (fun a' w' h' => by
      by_cases ht : i = tl
      · rw [if_pos ht] at h'
        exact wpAny_done h'.1 (hQ _ _ h'.2) fuel
      · rw [if_neg ht] at h'
        exact wpAny_of_her2 hR hQ fuel _ a' w' h'.2) ((h w (hR.1 w)).2 i hi)⟩
/-- The last operation waits for all others. -/
def lastB (md : Region.Mode) (ops : Array Oper) (tl : Nat) : Bool :=
  (List.range ops.size).all fun i => i == tl || !(Region.ready md ops (((Array.replicate ops.size true).setIfInBounds i false).setIfInBounds tl false)).contains tl
theorem ready_sub {listed listed' : Array Bool} {j : Nat} (hj : j ∈ Region.ready md ops listed) (h0 : listed'.getD j true = false) (h : ∀ k, listed.getD k false = true → listed'.getD k false = true) : j ∈ Region.ready md ops listed' := by
  rw [mem_ready] at *
  obtain ⟨_, o, ho, hall⟩ := hj
  exact ⟨h0, o, ho, fun e he hb => h _ (hall e he hb)⟩
theorem last_waits {tl i : Nat} {listed : Array Bool} (hB : lastB md ops tl = true) (hne : i ≠ tl) (hi : i ∈ Region.ready md ops listed) (hs : listed.size = ops.size) : tl ∉ Region.ready md ops listed := by
  intro ht
  unfold lastB at hB
  rw [List.all_eq_true] at hB
  obtain ⟨hu, oi, ho, _⟩ := mem_ready.1 hi
  have hlt : i < ops.size := (Array.getElem?_eq_some_iff.1 ho).1
  obtain ⟨hu', ot, hot, _⟩ := mem_ready.1 ht
  have hlt' : tl < ops.size := (Array.getElem?_eq_some_iff.1 hot).1
  have h := hB i (by simpa using hlt)
  have hne' : (i == tl) = false := by simpa using hne
  rw [hne', Bool.false_or, Bool.not_eq_true'] at h
  have : tl ∈ Region.ready md ops (((Array.replicate ops.size true).setIfInBounds i false).setIfInBounds tl false) := by
    refine ready_sub ht (by simp [hlt']) (fun k hk => ?_)
    have hks : k < listed.size := by
      rcases Nat.lt_or_ge k listed.size with h' | h'
      · exact h'
      · simp [Array.getElem?_eq_none h'] at hk
    have hki : k ≠ i := fun e => by subst e; simp [hks] at hk hu; rw [hk] at hu; cases hu
    have hkt : k ≠ tl := fun e => by subst e; simp [hks] at hk hu'; rw [hk] at hu'; cases hu'
    have hg : (((Array.replicate ops.size true).setIfInBounds i false).setIfInBounds tl false)[k]? = some true := by
      rw [Array.getElem?_setIfInBounds_ne (Ne.symm hkt), Array.getElem?_setIfInBounds_ne (Ne.symm hki)]
      have : k < ops.size := by omega
      simp [this]
    rw [Array.getD_eq_getD_getElem?, hg]; rfl
  have h2 : (Region.ready md ops (((Array.replicate ops.size true).setIfInBounds i false).setIfInBounds tl false)).contains tl = true := by simpa using this
  rw [h] at h2
  cases h2
theorem wpHer2_first (hR : Steady R) {tl : Nat} {Q : Act → World → Prop} {i : Nat} {oi : Oper} {v : Value} (hi : ops[i]? = some oi) (hsel : ∀ (j : Nat) (o : Oper) cs b, ops[j]? = some o → o.op ≠ .select cs b) (hit : i ≠ tl) (hlast : lastB md ops tl = true) :
    ∀ (fuel : Nat) (listed : Array Bool) (a : Act) (w : World), listed.size = ops.size →
      (∀ j oj, ops[j]? = some oj → j ≠ i → listed.getD j true = false → (∀ e ∈ oj.after, Region.binds md e = true → e.on ≠ i) → oi.apart ops oj = true) →
      i ∈ Region.ready md ops listed → YieldsH P ops R w oi v a →
      wpHer2 P md ops R tl Q fuel (listed.setIfInBounds i true) (a.put oi.dst v) w → wpHer2 P md ops R tl Q (fuel + 1) listed a w := by
  intro fuel
  induction fuel with
  | zero => intro listed a w _ _ _ _ H; exact H.elim
  | succ fuel ih =>
    intro listed a w hsz hfree hr hy H w0 h0
    refine ⟨fun h => (by rw [h] at hr; cases hr), fun j hj => ?_⟩
    by_cases hji : j = i
    · subst hji
      refine herAt_yields hR hi (hy.later hR h0) fun w' hw' => ?_
      rw [if_neg hit]
      exact ⟨hw', wpHer2_later hR H (hR.2 _ _ _ h0 hw')⟩
    · have hjt : j ≠ tl := fun e => by subst e; exact last_waits hlast hit hr hsz hj
      have h1 := (H w0 h0).2 j (ready_mono hj hji)
      obtain ⟨hjun, oj, hoj, hall⟩ := mem_ready.1 hj
      have hnot : ∀ e ∈ oj.after, Region.binds md e = true → e.on ≠ i := fun e he hb heq => by
        have h1 := hall e he hb
        have h0 := (mem_ready.1 hr).1
        rw [heq] at h1
        rcases Nat.lt_or_ge i listed.size with h' | h'
        · simp [h'] at h0 h1; rw [h0] at h1; cases h1
        · simp [Array.getElem?_eq_none h'] at h1
      have hfree' : ∀ k ok, ops[k]? = some ok → k ≠ i → (listed.setIfInBounds j true).getD k true = false →
          (∀ e ∈ ok.after, Region.binds md e = true → e.on ≠ i) → oi.apart ops ok = true := fun k ok hk hki hun hno => by
        refine hfree k ok hk hki ?_ hno
        by_cases hjk : j = k
        · subst hjk; exact hjun
        · rw [Go.getD_set_ne true hjk] at hun; exact hun
      have hap := hfree j oj hoj hji hjun hnot
      have hsi := fun cs b => hsel i oi cs b hi
      have h2 := herAt_put hoj hap hsi (fun cs b => hsel j oj cs b hoj) (hy.later hR h0) h1
      refine herAt_mono (fun a' w' h3 => ?_) h2
      rw [if_neg hjt] at h3 ⊢
      refine ⟨h3.2.1, ih (listed.setIfInBounds j true) a' w' (by simpa using hsz) hfree' (ready_mono hr (Ne.symm hji)) (h3.1.later hR h3.2.1) ?_⟩
      rw [Array.setIfInBounds_comm _ _ hji]
      exact h3.2.2
def tailB2 (md : Region.Mode) (ops : Array Oper) (tl : Nat) : List Nat → Array Bool → Bool
  | [], _ => false
  | [i], listed => decide (i = tl) && decide (Region.ready md ops listed = [i]) && (Region.ready md ops (listed.setIfInBounds i true)).isEmpty
  | i :: j :: is, listed => decide (i ≠ tl) && decide (Region.ready md ops listed = [i]) && tailB2 md ops tl (j :: is) (listed.setIfInBounds i true)
def headB2 (md : Region.Mode) (ops : Array Oper) (tl : Nat) : List Nat → List Nat → Array Bool → Bool
  | [], ts, listed => tailB2 md ops tl ts listed
  | i :: is, ts, listed => decide (i ≠ tl) && (Region.ready md ops listed).contains i && Region.free md ops listed i && headB2 md ops tl is ts (listed.setIfInBounds i true)
theorem wpHer2_tail (hR : Steady R) {tl : Nat} {Q : Act → World → Prop} : ∀ (is : List Nat) (l : List Oper) (listed : Array Bool) (a : Act) (w : World), is.map (ops[·]?) = l.map some → tailB2 md ops tl is listed = true → wpT2 P ops R Q l a w → wpHer2 P md ops R tl Q l.length listed a w
  | [], _, _, _, _, _, hB, _ => by simp [tailB2] at hB
  | _ :: _, [], _, _, _, he, _, _ => by simp at he
  | [i], _ :: _ :: _, _, _, _, he, _, _ => by simp at he
  | _ :: _ :: _, [_], _, _, _, he, _, _ => by simp at he
  | [i], [o], listed, a, w, he, hB, h => fun w' hw' => by
    simp only [List.map_cons, List.cons.injEq] at he
    simp only [tailB2, Bool.and_eq_true, decide_eq_true_eq, List.isEmpty_iff] at hB
    obtain ⟨⟨ht, hr⟩, hr2⟩ := hB
    refine And.intro (fun h0 => by rw [hr] at h0; cases h0) (fun j hj => ?_)
    rw [hr] at hj
    obtain rfl : j = i := by simpa using hj
    have h1 := h w' hw'
    rw [herAt]
    subst ht
    simp only [he.1, if_true]
    split
    · rename_i hw
      rw [if_pos hw] at h1
      exact herOp_mono (fun a w h => ⟨hr2, h⟩) h1
    · rename_i hw
      rw [if_neg hw] at h1
      exact ⟨hr2, h1⟩
  | i :: i' :: is, o :: o' :: l, listed, a, w, he, hB, h => fun w' hw' => by
    simp only [List.map_cons, List.cons.injEq] at he
    simp only [tailB2, Bool.and_eq_true, decide_eq_true_eq] at hB
    obtain ⟨⟨ht, hr⟩, hB'⟩ := hB
    refine And.intro (fun h0 => by rw [hr] at h0; cases h0) (fun j hj => ?_)
    rw [hr] at hj
    obtain rfl : j = i := by simpa using hj
    have h1 := h w' hw'
    rw [herAt]
    simp only [he.1, ht, if_false]
    split
    · rename_i hw
      rw [if_pos hw] at h1
      exact herOp_mono (fun a w h => ⟨h.1, wpHer2_tail hR (i' :: is) (o' :: l) _ _ _ (by simp [he.2]) hB' h.2⟩) h1
    · rename_i hw
      rw [if_neg hw] at h1
      exact ⟨hR.1 _, wpHer2_tail hR (i' :: is) (o' :: l) _ _ _ (by simp [he.2]) hB' h1⟩
theorem wpHer2_head (hR : Steady R) {tl : Nat} {Q : Act → World → Prop} (hs : Region.noSelect ops = true) (hlast : lastB md ops tl = true) : ∀ (qs ts : List Nat) (lq lt : List Oper) (listed : Array Bool) (a : Act) (w : World), listed.size = ops.size → qs.map (ops[·]?) = lq.map some → ts.map (ops[·]?) = lt.map some →
    headB2 md ops tl qs ts listed = true → wpH P ops R w (fun a' => wpT2 P ops R Q lt a' w) lq a → wpHer2 P md ops R tl Q (lq.length + lt.length) listed a w
  | [], ts, [], lt, listed, a, w, _, _, ht, hB, h => by rw [List.length_nil, Nat.zero_add]; exact wpHer2_tail hR ts lt listed a w ht hB h
  | [], _, _ :: _, _, _, _, _, _, he, _, _, _ => by simp at he
  | _ :: _, _, [], _, _, _, _, _, he, _, _, _ => by simp at he
  | i :: is, ts, o :: l, lt, listed, a, w, hsz, he, ht, hB, h => by
    simp only [List.map_cons, List.cons.injEq] at he
    simp only [headB2, Bool.and_eq_true, decide_eq_true_eq] at hB
    obtain ⟨⟨⟨hit, hr⟩, hf⟩, hB'⟩ := hB
    rw [List.length_cons, show l.length + 1 + lt.length = (l.length + lt.length) + 1 from by omega]
    unfold wpH at h
    by_cases hw : Region.wanted o (yielded ops a.tmps) = true
    · rw [if_pos hw] at h
      obtain ⟨v, hv, hK⟩ := h
      exact wpHer2_first hR he.1 (Region.noSelect_spec hs) hit hlast (l.length + lt.length) listed a w hsz (Region.free_spec he.1 hf) (by simpa using hr) (.inl ⟨hw, hv⟩) (wpHer2_head hR hs hlast is ts l lt _ _ _ (by simpa using hsz) he.2 ht hB' hK)
    · rw [if_neg hw] at h
      exact wpHer2_first hR he.1 (Region.noSelect_spec hs) hit hlast (l.length + lt.length) listed a w hsz (Region.free_spec he.1 hf) (by simpa using hr) (.inr ⟨by simpa using hw, rfl⟩) (wpHer2_head hR hs hlast is ts l lt _ _ _ (by simpa using hsz) he.2 ht hB' h)
/-- A region that draws: those marked true first, the rest behind them, the last one of all a store. -/
theorem wp_region_her2 {id : Nat} {Q : Exit → Act → World → Prop} {a : Act} {w : World} {l : List Oper} (mask : List Bool) (hm : P.follows .mixedOrders = true)
    (hB : (Region.noSelect l.toArray && decide ((selB mask l).length + (selB (notB mask) l).length = l.length) && lastB .any l.toArray (l.length - 1) && headB2 .any l.toArray (l.length - 1) (selB mask (List.range' 0 l.length)) (selB (notB mask) (List.range' 0 l.length)) (Array.replicate l.length false)) = true)
    (h : wpH P l.toArray LaterW w (fun a' => wpT2 P l.toArray LaterW (fun a'' w'' => Q .normal a'' w'') (selB (notB mask) l) a' w) (selB mask l) a) : (Code.region id l.toArray true).wp P Q a w := by
  simp only [Bool.and_eq_true, decide_eq_true_eq] at hB
  obtain ⟨⟨⟨h1, h2⟩, h3⟩, h4⟩ := hB
  refine wp_region_any hm ?_
  have h5 := wpHer2_head (md := .any) laterW_steady h1 h3 _ _ (selB mask l) (selB (notB mask) l) (Array.replicate l.length false) a w (by simp) (selB_map mask l 0 (by simp)) (selB_map (notB mask) l 0 (by simp)) h4 h
  rw [h2] at h5
  have h6 := wpHer2_later laterW_steady h5 (w' := w.drew) ⟨w.drew, (ovr_of (Below.drew (Below.refl _ _))).symm⟩
  simpa using wpAny_of_her2 laterW_steady (fun a w h => h) _ _ _ _ h6
theorem wpT2_last {Q : Act → World → Prop} {a : Act} {w : World} {o : Oper} (h : ∀ w', R w w' → if Region.wanted o (yielded ops a.tmps) then herOp P o a w' Q else Q (a.put o.dst undef) w') : wpT2 P ops R Q [o] a w := h
theorem wpT2_step {Q : Act → World → Prop} {a : Act} {w : World} {o o' : Oper} {rest : List Oper}
    (h : ∀ w', R w w' → ∀ K : Act → World → Prop, (∀ a'' w'', R w' w'' → wpT2 P ops R Q (o' :: rest) a'' w'' → K a'' w'') → if Region.wanted o (yielded ops a.tmps) then herOp P o a w' K else wpT2 P ops R Q (o' :: rest) (a.put o.dst undef) w') : wpT2 P ops R Q (o :: o' :: rest) a w := fun w' hw' =>
  h w' hw' (fun a'' w'' => R w' w'' ∧ wpT2 P ops R Q (o' :: rest) a'' w'') (fun a'' w'' h1 h2 => ⟨h1, h2⟩)
end
end Go.Proofs.Ytngniniiohgilaa
/- Walks: the table over sets of halls. Conditions: at most seven halls. -/
namespace Go.Proofs.Ytngniniiohgilaa
open Go.RowKit
set_option linter.unusedVariables false

theorem or_gt {S k : Nat} (h : S.testBit k = false) : S < S ||| 2 ^ k := by
  have h1 : S ≤ S ||| 2 ^ k := Nat.left_le_or
  have h2 : S ≠ S ||| 2 ^ k := fun e => by
    have h3 : (S ||| 2 ^ k).testBit k = true := by rw [or_test]; simp
    rw [← e, h] at h3
    cases h3
  omega
theorem stepV_congr {l : List T2} {h : Nat} {v v' : Nat → Int} {S : Nat} (e : ∀ T, S < T → v T = v' T) : ∀ k, stepV l h v S k = stepV l h v' S k
  | 0 => rfl
  | k + 1 => by
    rw [stepV, stepV, stepV_congr e k]
    cases hb : S.testBit k
    · rw [e _ (or_gt hb)]
    · rfl
theorem stepV_bound {l : List T2} {h : Nat} {v : Nat → Int} {S : Nat} (h0 : ∀ T, 0 ≤ v T) : ∀ k, 0 ≤ stepV l h v S k ∧ stepV l h v S k ≤ 100
  | 0 => by show (0 : Int) ≤ 100 ∧ (100 : Int) ≤ 100; omega
  | k + 1 => by
    have h1 := stepV_bound (l := l) (h := h) (S := S) h0 k
    have h2 := bord_bound l h S
    have h3 := h0 (S ||| 2 ^ k)
    rw [stepV]
    split <;> omega
theorem stepV_skip {l : List T2} {h : Nat} {v : Nat → Int} {S k : Nat} (hb : S.testBit k = true) : stepV l h v S (k + 1) = stepV l h v S k := by rw [stepV, hb]; rfl
theorem stepV_take {l : List T2} {h : Nat} {v : Nat → Int} {S k : Nat} (hb : S.testBit k = false) : stepV l h v S (k + 1) = min (stepV l h v S k) (max (bord l h S + 1) (v (S ||| 2 ^ k))) := by rw [stepV, hb]; rfl
/-- The cells from S on hold what the sets need. -/
def Tab (l : List T2) (h : Nat) (v : Nat → Int) (S : Nat) (cs : List Value) : Prop :=
  (∀ T, S ≤ T → T < 2 ^ h → cs[T]? = some (.int .i64 (v T))) ∧ v (2 ^ h - 1) = 0 ∧ (∀ T, S ≤ T → T < 2 ^ h - 1 → v T = stepV l h v T h) ∧ ∀ T, 0 ≤ v T ∧ v T ≤ 100
theorem Tab.first (l : List T2) (h : Nat) (hp : 0 < 2 ^ h) {cs : List Value} (hc : cs[2 ^ h - 1]? = some (.int .i64 0)) : Tab l h (fun _ => 0) (2 ^ h - 1) cs :=
  ⟨fun T h1 h2 => by obtain rfl : T = 2 ^ h - 1 := by omega
                     exact hc, rfl, fun T h1 h2 => by omega, fun T => by show (0 : Int) ≤ 0 ∧ (0 : Int) ≤ 100; omega⟩
theorem Tab.next {l : List T2} {h : Nat} {v : Nat → Int} {S : Nat} {cs cs' : List Value} (t : Tab l h v (S + 1) cs) (hS : S < 2 ^ h - 1) (h1 : cs'[S]? = some (.int .i64 (stepV l h v S h))) (h2 : ∀ T, S < T → cs'[T]? = cs[T]?) :
    Tab l h (fun T => if T = S then stepV l h v S h else v T) S cs' := by
  obtain ⟨t1, t2, t3, t4⟩ := t
  have hc : ∀ T, S ≤ T → stepV l h v T h = stepV l h (fun T => if T = S then stepV l h v S h else v T) T h := fun T hT =>
    stepV_congr (fun U hU => by show v U = if U = S then _ else _; rw [if_neg (by omega)]) h
  refine ⟨fun T hT hl => ?_, ?_, fun T hT hl => ?_, fun T => ?_⟩
  · show cs'[T]? = some (.int .i64 (if T = S then _ else _))
    split
    · rename_i e; rw [e]; exact h1
    · rw [h2 T (by omega)]; exact t1 T (by omega) hl
  · show (if 2 ^ h - 1 = S then _ else _) = _
    rw [if_neg (by omega)]; exact t2
  · show (if T = S then _ else _) = _
    split
    · rename_i e; subst e; exact hc T (Nat.le_refl _)
    · rw [← hc T (by omega)]; exact t3 T (by omega) hl
  · show 0 ≤ (if T = S then _ else _) ∧ (if T = S then _ else _) ≤ _
    split
    · exact stepV_bound (fun T => (t4 T).1) h
    · exact t4 T
theorem Tab.rec {l : List T2} {h : Nat} {v : Nat → Int} {cs : List Value} (t : Tab l h v 0 cs) : RecV l h v := ⟨t.2.1, fun S hS => t.2.2.1 S (by omega) hS⟩
set_option maxHeartbeats 6400000 in
set_option maxRecDepth 100000 in
theorem l24Best_any (h : Nat) (A : Option Addr) (n c : Nat) (l : List T2) (w : World) (hl : Row w A (l.flatMap T2.v)) (hn : l.length = n) (hx : n ≤ 12) (h7 : h ≤ 7) (h1 : 1 ≤ h) :
    Calls Try.prog 66 #[.agg #[.int .i64 h, .slice A n c]] w fun en w' => ∃ g v cs, en = .returned (.slice (some ⟨g, 0, none⟩) (2 ^ h) (2 ^ h)) ∧ w'.ownsRow w.heap.size 3 1 (.slice (some ⟨g, 0, none⟩) (2 ^ h) (2 ^ h)) (2 ^ h) cs ∧ Tab l h v 0 cs ∧ Ext w w' := by
  obtain ⟨i0, hi, hz0, hz1, hz2⟩ := info_parts info_int
  subst hn
  obtain ⟨hp, hp'⟩ := pow_small (show h ≤ 8 by omega)
  have hp7 : 2 ^ h ≤ 128 := Nat.pow_le_pow_right (by omega) h7
  have hp1 : 2 ≤ 2 ^ h := Nat.le_trans (show 2 ≤ 2 ^ 1 by decide) (Nat.pow_le_pow_right (by omega) h1)
  obtain ⟨N, hN⟩ : ∃ N, N = 2 ^ h := ⟨_, rfl⟩
  have HN := hid hN
  rw [← hN] at hp hp' hp7 hp1 ⊢
  clear hN
  go_enter Try.func66, Try.ntmps66
  go_wp2_with (at_make; refine wpList_make_full _ rfl (.tmp 12) (.tmp 12) 31 rfl w.heap.size 3 i0 _ 1 Try.underlying31 hi hz0 hz1 _ _ _ _ N rfl rfl rfl rfl (by rw [hz2]; omega) (by unfold maxLen; omega) (by simp) ?_)
  intro w1 hown hg
  have HB := hid (show Bx h A l.length c w w1 from by
    have hb : w1.heap[w.heap.size]? = (w.alloc (.cells #[.int .i64 ↑h, .slice A l.length c] 26)).heap[w.heap.size]? := hg.block _ (by simp) (by simp)
    exact ⟨Below.grown (by repeat (first | exact Ext.refl _ | refine Ext.alloc ?_ _ | assumption | refine Ext.over ?_ _ | refine Ext.drew ?_ | refine Ext.drewN ?_ _)) hg (by simp) (by simp), (World.cell?_of_block hb).trans (by go_simp), (World.cell?_of_block hb).trans (by go_simp)⟩)
  obtain ⟨gd, hgd⟩ : ∃ gd, gd = w.heap.size + 1 := ⟨_, rfl⟩
  rw [← hgd] at hown ⊢
  have HGD := hid (show w.heap.size < gd by omega)
  rw [toList_madeCells_one] at hown
  have HO := hid hown
  have HT0 := hid (show Tab l h (fun _ => 0) (N - 1) (List.replicate N (.int .i64 0)) by
    have := Tab.first l h (by rw [← HN.out]; omega) (cs := List.replicate N (.int .i64 0)) (by rw [← HN.out, List.getElem?_replicate]; rw [if_pos (by omega)])
    rw [← HN.out] at this
    exact this)
  clear hgd hown hg hz0 hz1 hz2 hi
  go_wp2_with fail
  go_loopw [5] (fun iv wr => ∃ (S : Nat) (v : Nat → Int) (cs : List Value), S ≤ N - 1 ∧ iv = .int .i64 ((S : Int) - 1) ∧ wr.ownsRow w.heap.size 3 1 (.slice (some ⟨gd, 0, none⟩) N N) N cs ∧ Tab l h v S cs ∧ Bx h A l.length c w wr) (fun iv _ => (intOf iv + 1).toNat)
  case atStart => exact ⟨N - 1, _, _, Nat.le_refl _, by first | rfl | (congr 1; omega), HO.out, HT0.out, HB.out⟩
  case round =>
    obtain ⟨S', v, cs, hS, rfl, hown, htab, hbx⟩ := hrel
    have HX := hid hbx
    have HW := hid hown
    have HT := hid htab
    clear hown htab hbx HO HB HT0
    rename World => wo
    rcases S' with _ | S
    · have e0 : (((0 : Nat) : Int) - 1) = -1 := by omega
      rw [e0]
      have HE := hid HX.out.1
      go_wp2_with fail
      go_ret
      exact ⟨gd, v, cs, rfl, HW.out, HT.out, HE.out⟩
    · have e0 : (((S + 1 : Nat) : Int) - 1) = (S : Int) := by omega
      rw [e0]
      clear e0
      have hSN : S < N := by omega
      have hS128 : S < 128 := by omega
      have hst := HW.out.stored S (.int .i64 100)
      have f1 := HW.out.frozenAt S
      have c1 : ∃ u, wo.cell? ⟨gd, S, none⟩ = some u := by
        rw [HW.out.cellAt S (by omega)]
        have := HW.out.1
        exact ⟨_, List.getElem?_eq_getElem (by omega)⟩
      obtain ⟨u, c1⟩ := c1
      have HS := hid hst
      have hcl := HW.out.1
      have HCL := hid hcl
      clear hst hcl
      go_wp2_with fail
      go_loopw [6] (fun kv wr => ∃ (k : Nat) (cs' : List Value), k ≤ h ∧ kv = .int .i64 ↑k ∧ wr.ownsRow w.heap.size 3 1 (.slice (some ⟨gd, 0, none⟩) N N) N cs' ∧ cs'[S]? = some (.int .i64 (stepV l h v S k)) ∧ (∀ T, S < T → cs'[T]? = cs[T]?) ∧ Bx h A l.length c w wr) (fun kv _ => h - (intOf kv).toNat)
      case atStart =>
        refine ⟨0, _, by omega, rfl, HS.out.1, ?_, fun T hT => ?_, HX.out.grown HS.out.2 HGD.out⟩
        · rw [List.getElem?_set_self (by have := HCL.out; omega)]; rfl
        · rw [List.getElem?_set_ne (by omega)]
      case round =>
        obtain ⟨k, cs', hk, rfl, hown, hcS, hcT, hbx⟩ := hrel
        have HX2 := hid hbx
        have HW2 := hid hown
        have HCS := hid hcS
        have HCT := hid hcT
        have b0 := hbx.2.1
        have b1 := hbx.2.2
        have HL := hid (hl.ext hbx.1)
        clear hown hbx hcS hcT HS c1 f1
        by_cases hlt : k < h
        · cases hb : S.testBit k
          rotate_left
          · obtain ⟨e0, e1⟩ := bit_yes (k := k) (show S < 256 by omega) hb
            have HV := hid (stepV_skip (l := l) (h := h) (v := v) hb)
            go_wp2_with fail
            go_roundw
            case rel => exact ⟨k + 1, cs', by omega, by go_num, HW2.out, by rw [HV.out]; exact HCS.out, HCT.out, HX2.out⟩
            case measure => simp [intOf]; omega
          · obtain ⟨e0, e1⟩ := bit_no (k := k) (show S < 256 by omega) hb
            have HV := hid (stepV_take (l := l) (h := h) (v := v) hb)
            obtain ⟨hor, hor'⟩ := or_bit hS128 (show k < 7 by omega)
            have hgt := or_gt hb
            obtain ⟨Q, hQ⟩ : ∃ Q, Q = S ||| 2 ^ k := ⟨_, rfl⟩
            have hQN : Q < N := by
              rw [hQ, HN.out]
              exact Nat.or_lt_two_pow (by rw [← HN.out]; exact hSN) (Nat.pow_lt_pow_right (by omega) hlt)
            rw [← hQ] at hor hor' hgt HV
            have HQ := hid hQ
            clear hQ
            have hbo := bord_bound l h S
            obtain ⟨b, hbd⟩ : ∃ b, b = bord l h S := ⟨_, rfl⟩
            rw [← hbd] at hbo HV
            have HBD := hid hbd.symm
            have hsb := stepV_bound (l := l) (h := h) (S := S) (fun T => (HT.out.2.2.2 T).1) k
            obtain ⟨x, hx1⟩ : ∃ x, x = stepV l h v S k := ⟨_, rfl⟩
            rw [← hx1] at hsb HV HCS
            have hvq := HT.out.2.2.2 Q
            obtain ⟨y, hy1⟩ : ∃ y, y = v Q := ⟨_, rfl⟩
            rw [← hy1] at hvq HV
            have c1 : wr.cell? ⟨gd, S, none⟩ = some (.int .i64 x) := by rw [HW2.out.cellAt S (by omega)]; exact HCS.out
            have c2 : wr.cell? ⟨gd, Q, none⟩ = some (.int .i64 y) := by
              rw [HW2.out.cellAt Q (by omega), HCT.out Q hgt, hy1]
              exact HT.out.1 Q (by omega) (by rw [← HN.out]; exact hQN)
            clear hbd hx1 hy1
            have hor2 : bits .or .i64 (S : Int) (IntKind.i64.wrap (2 ^ k)) = (Q : Int) := by rw [IntWalk.i64_left]; exact hor
            have hw1 : IntKind.i64.wrap (b + 1) = b + 1 := IntWalk.i64_in _ ⟨by omega, by omega⟩
            go_wp2_with fail
            refine wp_region_her2 [true, true, true, true, true, true, true, true, true, true, true, true, true, true, true, true, true, true, true, true, false] (by kernel_rfl) (by kernel_rfl) ?_
            simp only [selB, notB, List.map_cons, List.map_nil, Bool.not_true, Bool.not_false]
            repeat (refine wpH_step (fun K hK => ?_); go_simp; first | (refine hK _ ?_; clear hK K) | (apply Exists.intro; refine ⟨fun _ => ?_, hK _ ?_⟩; (go_at_call 67; exact (gives_v HBD.out (border_any h _ _ _ l S _ (HL.out.ext (by repeat (first | exact Ext.refl _ | refine Ext.alloc ?_ _ | assumption | refine Ext.over ?_ _ | refine Ext.drew ?_ | refine Ext.drewN ?_ _))) rfl (by omega) (by omega) hS128)).over); clear hK K))
            refine wpH_nil ?_
            refine wpT2_last (fun w2 hw2 => ?_)
            have e2 := later_ext hw2
            have HW3 := hid (own_ext HW2.out e2)
            have HX3 := hid (HX2.out.ext e2)
            obtain ⟨u3, c3, f3⟩ := own_some HW3.out S (by omega)
            clear hw2 e2
            go_simp
            have HV2 := hid (show stepV l h v S (k + 1) = (if (if b + 1 < y then y else b + 1) < x then (if b + 1 < y then y else b + 1) else x) by
              rw [HV.out]
              split <;> split <;> omega)
            rw [← HV2.out]
            have hst := HW3.out.stored S (.int .i64 (stepV l h v S (k + 1)))
            have HS3 := hid hst
            have hl3 := HW2.out.1
            have HL3 := hid hl3
            clear hst hl3 c3 f3 c1 c2
            go_wp2_with fail
            go_roundw
            case rel =>
              refine ⟨k + 1, _, by omega, by go_num, HS3.out.1, ?_, fun T hT => ?_, HX3.out.grown HS3.out.2 HGD.out⟩
              · rw [List.getElem?_set_self (by have := HL3.out; omega)]
              · rw [List.getElem?_set_ne (by omega)]; exact HCT.out T hT
            case measure => simp [intOf]; omega
        · obtain rfl : k = h := by omega
          have HTN := hid (HT.out.next (by rw [← HN.out]; omega) HCS.out HCT.out)
          go_wp2_with fail
          go_roundw
          case rel => exact ⟨S, _, cs', by omega, rfl, HW2.out, HTN.out, HX2.out⟩
          case measure => simp [intOf]
end Go.Proofs.Ytngniniiohgilaa
/- Walks: the best order by trying all orders. Conditions: a valid house. -/
namespace Go.Proofs.Ytngniniiohgilaa
open Go.RowKit
set_option linter.unusedVariables false

def BestAt (l : List T2) (h : Nat) (A : Option Addr) (c r : Nat) : Prop :=
  ∀ (b : List Nat) (B : Option Addr) (m d : Nat) (w : World), Row w A (l.flatMap T2.v) → Row w B ((ci b).map (Value.int .i64)) → b.length = m → Beg h b → r + m = h → (B = none → m = 0 ∧ d = 0) → m ≤ d →
    Calls Try.prog 53 #[.agg #[.int .i64 h, .slice A l.length c], .slice B m d] w fun en w' => ∃ g c', en = .returned (.tuple #[.slice (some ⟨g, 0, none⟩) h c', .int .i64 (bst l h r b).2]) ∧
      w'.ownsRow w.heap.size 3 1 (.slice (some ⟨g, 0, none⟩) h c') h ((ci (bst l h r b).1).map (Value.int .i64)) ∧ Ext w w'
set_option maxHeartbeats 3200000 in
set_option maxRecDepth 100000 in
theorem best_zero (h : Nat) (A : Option Addr) (c : Nat) (l : List T2) (hx : l.length ≤ 12) (h7 : h ≤ 7) (h1 : 1 ≤ h) (hf : doorsOk h l = true) : BestAt l h A c 0 := by
  intro b B m d w hl hb hm hB hr hnone hcap
  subst hm
  obtain rfl : h = b.length := by omega
  have hlen := ci_len b
  have HD := hid hf
  clear hf
  cases B with
  | none => have := hnone rfl; omega
  | some p =>
    go_enter Try.func53, Try.ntmps53
    go_wp2_with fail
    refine wp_region_her [true, false, true, true, false, false, false] (by kernel_rfl) (by kernel_rfl) ?_
    (simp only [selB, notB, List.map_cons, List.map_nil, Bool.not_true, Bool.not_false]; (repeat (refine wpH_step (fun K hK => ?_); go_simp; refine hK _ ?_; clear hK K)); refine wpH_nil ?_)
    refine wpT_step (fun w2 hw2 K hK => ?_)
    have e2 : Ext w w2 := (show Ext w _ by repeat (first | exact Ext.refl _ | refine Ext.alloc ?_ _ | assumption | refine Ext.over ?_ _ | refine Ext.drew ?_ | refine Ext.drewN ?_ _)).trans (later_ext hw2)
    clear hw2
    go_simp
    refine (Clone_any (some p) b.length d (ci b) w2 (hb.ext e2) hlen (by omega) (by intro h; cases h)).mono ?_
    rintro _ w3 ⟨A', c', rfl, ho, he3⟩
    refine ⟨_, rfl, hK _ _ he3.ex ?_⟩; clear hK K
    obtain ⟨g, rfl⟩ := own_addr ho (by omega)
    have HO3 := hid (own_base (base' := w.heap.size) ho e2.size)
    have E3 := hid (e2.trans he3)
    clear ho he3 e2
    refine wpT_step (fun w4 hw4 K hK => ?_)
    have e4 := later_ext hw4
    clear hw4
    go_simp
    refine (igf_any b.length A l.length c l _ b.length d (ci b) w4 (hl.ext (E3.out.trans e4)) rfl hx h7 HD.out (hb.ext (E3.out.trans e4)) hlen (by omega) hcap).mono ?_
    rintro _ w5 ⟨rfl, he5⟩
    refine ⟨_, rfl, hK _ _ he5.ex ?_⟩; clear hK K
    have HO5 := hid (own_ext HO3.out (e4.trans he5))
    have EX := hid (Ext.refl w5)
    have E5 := hid (E3.out.trans (e4.trans he5))
    clear e4 he5
    (refine wpT_step (fun wx hwx K hK => ?_); replace EX := hid (EX.out.trans (later_ext hwx)); clear hwx; go_simp; refine hK _ _ (Ext.ex (Ext.refl _)) ?_; clear hK K)
    (refine wpT_step (fun wx hwx K hK => ?_); replace EX := hid (EX.out.trans (later_ext hwx)); clear hwx; go_simp; refine hK _ _ (Ext.ex (Ext.refl _)) ?_; clear hK K)
    (refine wpT_nil (fun wx hwx => ?_); replace EX := hid (EX.out.trans (later_ext hwx)); clear hwx)
    go_wp2_with fail
    refine bodyPost_ret (v := .tuple #[.slice (some ⟨g, 0, none⟩) b.length c', .int .i64 (forTo l b.length (ci b) b.length)]) (by simp [results, Try.results53, go_sem]) rfl ⟨g, c', rfl, own_ext HO5.out EX.out, E5.out.trans EX.out⟩
set_option maxHeartbeats 6400000 in
set_option maxRecDepth 100000 in
theorem best_succ (h : Nat) (A : Option Addr) (c : Nat) (l : List T2) (hx : l.length ≤ 12) (h7 : h ≤ 7) (r : Nat) (ih : BestAt l h A c r) : BestAt l h A c (r + 1) := by
  intro b B m d w hl hb hm hB hr hnone hcap
  subst hm
  have hbl : b.length < h := by omega
  have hlen := ci_len b
  have IH := hid ih
  have HB := hid hB
  have hnil := eqNilS'
  have hsome := eqSomeS'
  have hne : ((b.length : Int) == (h : Int)) = false := by rw [beq_eq_false_iff_ne]; omega
  clear ih hB
  obtain ⟨wb, hwb⟩ : ∃ wb, wb = w.alloc (.cells #[.int .i64 ↑h, .slice A l.length c] 26) := ⟨_, rfl⟩
  have hew : Ext w wb := by rw [hwb]; repeat (first | exact Ext.refl _ | refine Ext.alloc ?_ _ | assumption | refine Ext.over ?_ _ | refine Ext.drew ?_ | refine Ext.drewN ?_ _)
  have hsz := hid (show wb.heap.size = w.heap.size + 1 by rw [hwb]; simp)
  have hb0 : wb.cell? ⟨w.heap.size, 0, none⟩ = some (.int .i64 ↑h) := by rw [hwb]; go_simp
  have hb1 : wb.cell? ⟨w.heap.size, 1, none⟩ = some (.slice A l.length c) := by rw [hwb]; go_simp
  go_enter Try.func53, Try.ntmps53
  go_wp2_with fail
  go_loopw [6, 7, 8] (fun fv lv iv wr => ∃ k : Nat, k ≤ h ∧ iv = .int .i64 ↑k ∧ Ext wb wr ∧ ((accTo (bstF l h r b) k = none ∧ fv = .slice none 0 0 ∧ lv = .int .i64 0) ∨ ∃ x g c', accTo (bstF l h r b) k = some x ∧ fv = .slice (some ⟨g, 0, none⟩) h c' ∧ lv = .int .i64 x.2 ∧ wr.ownsRow wb.heap.size 3 1 (.slice (some ⟨g, 0, none⟩) h c') h ((ci x.1).map (Value.int .i64)))) (fun _ _ iv _ => h - (intOf iv).toNat)
  case atStart => exact ⟨0, by omega, rfl, by rw [hwb]; repeat (first | exact Ext.refl _ | refine Ext.alloc ?_ _ | assumption | refine Ext.over ?_ _ | refine Ext.drew ?_ | refine Ext.drewN ?_ _), .inl ⟨rfl, rfl, rfl⟩⟩
  clear hwb
  case round =>
    rename World => wo
    obtain ⟨k, hk, rfl, he, hacc⟩ := hrel
    have HE := hid he
    have HL := hid (hl.ext (hew.trans he))
    have HRB := hid (hb.ext (hew.trans he))
    have b0 := old_cell he hb0
    have b1 := old_cell he hb1
    clear he
    by_cases hlt : k < h
    · cases hc : b.contains k
      rotate_left
      · have hF := hid (show bstF l h r b k = none by unfold bstF; rw [hc]; simp)
        have HA := hid (accTo_skip hF.out)
        have hmem : memI (ci b) k = true := by rw [ci_mem]; exact hc
        have HACC := hid hacc
        clear hacc
        go_wp2_with (go_at_call 49; refine (gives_b hmem (Contains_any _ _ _ (ci b) _ _ (HRB.out.ext (by repeat (first | exact Ext.refl _ | refine Ext.alloc ?_ _ | assumption | refine Ext.over ?_ _ | refine Ext.drew ?_ | refine Ext.drewN ?_ _))) hlen (by omega))).over.mono ?_; rintro e w' ⟨rfl, xw, rfl⟩)
        go_roundw
        case rel =>
          refine ⟨k + 1, by omega, by go_num, HE.out.trans (by repeat (first | exact Ext.refl _ | refine Ext.alloc ?_ _ | assumption | refine Ext.over ?_ _ | refine Ext.drew ?_ | refine Ext.drewN ?_ _)), ?_⟩
          rw [HA.out]
          rcases HACC.out with h1 | ⟨x, g, c', h1, h2, h3, h4⟩
          · exact .inl h1
          · exact .inr ⟨x, g, c', h1, h2, h3, own_ext h4 (by repeat (first | exact Ext.refl _ | refine Ext.alloc ?_ _ | assumption | refine Ext.over ?_ _ | refine Ext.drew ?_ | refine Ext.drewN ?_ _))⟩
        case measure => simp [intOf]; omega
      have hmem : memI (ci b) k = false := by rw [ci_mem]; exact hc
      have HACC := hid hacc
      clear hacc
      go_wp2_with (go_at_call 49; refine (gives_b hmem (Contains_any _ _ _ (ci b) _ _ (HRB.out.ext (by repeat (first | exact Ext.refl _ | refine Ext.alloc ?_ _ | assumption | refine Ext.over ?_ _ | refine Ext.drew ?_ | refine Ext.drewN ?_ _))) hlen (by omega))).over.mono ?_; rintro e w' ⟨rfl, xw, rfl⟩)
      refine wp_region_x [.q 0, .q 1, .q 3, .s 2 4, .u 5, .u 6, .u 7, .q 8, .q 9, .u 10, .u 11] (by kernel_rfl) (by kernel_rfl) (fun w1 e1 => ?_)
      have E1 := hid ((show Ext wo _ by repeat (first | exact Ext.refl _ | refine Ext.alloc ?_ _ | assumption | refine Ext.over ?_ _ | refine Ext.drew ?_ | refine Ext.drewN ?_ _)).trans e1)
      have b0 := old_cell E1.out b0
      have b1 := old_cell E1.out b1
      have hacc := HACC.out
      clear e1 HACC
      simp only [pick, List.getElem?_cons_succ, List.getElem?_cons_zero]
      repeat (refine wpZ_q (fun K hK => ?_); go_simp; refine hK _ ?_; clear hK K)
      refine wpZ_s ?_ ?_
      · -- the copy first
        refine stepH_of (fun K hK => ?_)
        go_simp
        refine (Clone_any B b.length d (ci b) w1 (HRB.out.ext E1.out) hlen (by omega) hnone).mono ?_
        rintro _ w3 ⟨A', c1, rfl, ho, he3⟩
        refine ⟨_, rfl, hK _ _ he3 ?_⟩; clear hK K
        refine stepH_of (fun K hK => ?_)
        go_simp
        refine hK _ _ (Below.alloc (Below.refl _ _) he3.size _) ?_; clear hK K
        have HO4 := hid (own_ext ho (show Ext w3 (w3.alloc (.cells #[.int .i64 ↑k] 3)) by repeat (first | exact Ext.refl _ | refine Ext.alloc ?_ _ | assumption | refine Ext.over ?_ _ | refine Ext.drew ?_ | refine Ext.drewN ?_ _)))
        have E4 := hid (show Ext w1 (w3.alloc (.cells #[.int .i64 ↑k] 3)) from he3.trans (by repeat (first | exact Ext.refl _ | refine Ext.alloc ?_ _ | assumption | refine Ext.over ?_ _ | refine Ext.drew ?_ | refine Ext.drewN ?_ _)))
        have HC4 := hid (lit_cells w3 w3.heap.size rfl [.int .i64 ↑k] 3)
        clear ho he3
        refine wpZ_u ?_
        refine stepH_of (fun K hK => ?_)
        rw [if_pos (by rfl)]
        refine her_push w1 (.tmp 33) (.tmp 35) 31 rfl 3 Try.underlying31 info_int rfl (by decide) _ b.length ((ci b).map (Value.int .i64)) rfl HO4.out E4.out _ 1 1 [.int .i64 k] rfl rfl HC4.out (by intro u hu; simp at hu; subst hu; rfl) (by omega) (by omega) (by decide) ?_
        intro g cap w5 ho5 he5 hg5
        refine hK _ _ (grown_below hg5 HO4.out (Nat.le_refl _) E4.out.size) ?_; clear hK K
        have HE5 := hid he5
        have HO5 := hid (show w5.ownsRow w1.heap.size 3 1 (.slice (some ⟨g, 0, none⟩) (b.length + 1) cap) (b.length + 1) ((ci (b ++ [k])).map (Value.int .i64)) by rw [ci_app, List.map_append]; exact ho5)
        clear ho5 he5 hg5
        refine wpZ_u ?_
        refine stepH_of (fun K hK => ?_)
        go_simp
        refine (IH.out (b ++ [k]) (some ⟨g, 0, none⟩) (b.length + 1) cap w5 (HL.out.ext (E1.out.trans HE5.out)) (Row.of_own HO5.out) (by simp) (HB.out.snoc hlt hc) (by omega) (by intro h; cases h) (own_cap HO5.out)).mono ?_
        rintro _ w6 ⟨g2, c2, rfl, ho6, he6⟩
        refine ⟨_, rfl, hK _ _ (ext_below he6 HE5.out.size) ?_⟩; clear hK K
        have E6 := hid (E1.out.trans (HE5.out.trans he6))
        have HO6 := hid (own_base (base' := wb.heap.size) ho6 ((HE.out.trans (E1.out.trans HE5.out)).size))
        clear ho6 he6 HO5 HE5 HO4 E4 HC4 E1
        ((first | refine wpZ_u ?_ | skip); refine stepH_of (fun K hK => ?_); go_simp; refine hK _ _ (Below.refl _ _) ?_; clear hK K)
        (refine wpZ_q (fun K hK => ?_); go_simp; refine hK _ ?_; clear hK K)
        (refine wpZ_q (fun K hK => ?_); go_simp; refine hK _ ?_; clear hK K)
        ((first | refine wpZ_u ?_ | skip); refine stepH_of (fun K hK => ?_); go_simp; refine hK _ _ (Below.refl _ _) ?_; clear hK K)
        ((first | refine wpZ_u ?_ | skip); refine stepH_of (fun K hK => ?_); go_simp; refine hK _ _ (Below.refl _ _) ?_; clear hK K)
        refine wpZ_nil ?_
        have hF := hid (show bstF l h r b k = some (bst l h r (b ++ [k])) by unfold bstF; rw [hc]; simp)
        obtain ⟨y, hy⟩ : ∃ y, y = bst l h r (b ++ [k]) := ⟨_, rfl⟩
        rw [← hy] at hF HO6 ⊢
        clear hy
        rcases hacc with ⟨hn, rfl, rfl⟩ | ⟨x, gx, cx, hs, rfl, rfl, hox⟩
        · have HN := hid hn
          have HR := hid (accTo_first hF.out hn)
          clear hn
          go_wp2_with fail
          go_roundw
          case rel => exact ⟨k + 1, by omega, by go_num, HE.out.trans E6.out, .inr ⟨y, g2, c2, HR.out, rfl, rfl, HO6.out⟩⟩
          case measure => simp [intOf]; omega
        · have HOX := hid (own_ext hox E6.out)
          clear hox
          by_cases hlt2 : y.2 < x.2
          · have HR := hid (accTo_less hF.out hs hlt2)
            clear hs
            go_wp2_with fail
            go_roundw
            case rel => exact ⟨k + 1, by omega, by go_num, HE.out.trans E6.out, .inr ⟨y, g2, c2, HR.out, rfl, rfl, HO6.out⟩⟩
            case measure => simp [intOf]; omega
          · have HR := hid (accTo_more hF.out hs hlt2)
            clear hs
            go_wp2_with fail
            go_roundw
            case rel => exact ⟨k + 1, by omega, by go_num, HE.out.trans E6.out, .inr ⟨x, gx, cx, HR.out, rfl, rfl, HOX.out⟩⟩
            case measure => simp [intOf]; omega
      · -- the literal first
        refine stepH_of (fun K hK => ?_)
        go_simp
        refine hK _ _ (Below.alloc (Below.refl _ _) (Nat.le_refl _) _) ?_; clear hK K
        obtain ⟨w2, hw2⟩ : ∃ w2, w2 = w1.alloc (.cells #[.int .i64 ↑k] 3) := ⟨_, rfl⟩
        have e2 : Ext w1 w2 := by rw [hw2]; repeat (first | exact Ext.refl _ | refine Ext.alloc ?_ _ | assumption | refine Ext.over ?_ _ | refine Ext.drew ?_ | refine Ext.drewN ?_ _)
        have HC2 := hid (show ∀ j u, [Value.int .i64 (k : Int)][j]? = some u → w2.cell? ((⟨w1.heap.size, 0, none⟩ : Addr).add j) = some u by rw [hw2]; exact lit_cells w1 w1.heap.size rfl [.int .i64 ↑k] 3)
        rw [← hw2]
        clear hw2
        refine stepH_of (fun K hK => ?_)
        go_simp
        refine (Clone_any B b.length d (ci b) w2 (HRB.out.ext (E1.out.trans e2)) hlen (by omega) hnone).mono ?_
        rintro _ w3 ⟨A', c1, rfl, ho, he3⟩
        refine ⟨_, rfl, hK _ _ (ext_below he3 e2.size) ?_⟩; clear hK K
        have HO4 := hid (own_base (base' := w1.heap.size) ho e2.size)
        have E4 := hid (e2.trans he3)
        have HC4 := hid (show ∀ j u, [Value.int .i64 (k : Int)][j]? = some u → w3.cell? ((⟨w1.heap.size, 0, none⟩ : Addr).add j) = some u from fun j u hu => old_cell he3 (HC2.out j u hu))
        clear ho he3 e2 HC2
        refine wpZ_u ?_
        refine stepH_of (fun K hK => ?_)
        rw [if_pos (by rfl)]
        refine her_push w1 (.tmp 33) (.tmp 35) 31 rfl 3 Try.underlying31 info_int rfl (by decide) _ b.length ((ci b).map (Value.int .i64)) rfl HO4.out E4.out _ 1 1 [.int .i64 k] rfl rfl HC4.out (by intro u hu; simp at hu; subst hu; rfl) (by omega) (by omega) (by decide) ?_
        intro g cap w5 ho5 he5 hg5
        refine hK _ _ (grown_below hg5 HO4.out (Nat.le_refl _) E4.out.size) ?_; clear hK K
        have HE5 := hid he5
        have HO5 := hid (show w5.ownsRow w1.heap.size 3 1 (.slice (some ⟨g, 0, none⟩) (b.length + 1) cap) (b.length + 1) ((ci (b ++ [k])).map (Value.int .i64)) by rw [ci_app, List.map_append]; exact ho5)
        clear ho5 he5 hg5
        refine wpZ_u ?_
        refine stepH_of (fun K hK => ?_)
        go_simp
        refine (IH.out (b ++ [k]) (some ⟨g, 0, none⟩) (b.length + 1) cap w5 (HL.out.ext (E1.out.trans HE5.out)) (Row.of_own HO5.out) (by simp) (HB.out.snoc hlt hc) (by omega) (by intro h; cases h) (own_cap HO5.out)).mono ?_
        rintro _ w6 ⟨g2, c2, rfl, ho6, he6⟩
        refine ⟨_, rfl, hK _ _ (ext_below he6 HE5.out.size) ?_⟩; clear hK K
        have E6 := hid (E1.out.trans (HE5.out.trans he6))
        have HO6 := hid (own_base (base' := wb.heap.size) ho6 ((HE.out.trans (E1.out.trans HE5.out)).size))
        clear ho6 he6 HO5 HE5 HO4 E4 HC4 E1
        ((first | refine wpZ_u ?_ | skip); refine stepH_of (fun K hK => ?_); go_simp; refine hK _ _ (Below.refl _ _) ?_; clear hK K)
        (refine wpZ_q (fun K hK => ?_); go_simp; refine hK _ ?_; clear hK K)
        (refine wpZ_q (fun K hK => ?_); go_simp; refine hK _ ?_; clear hK K)
        ((first | refine wpZ_u ?_ | skip); refine stepH_of (fun K hK => ?_); go_simp; refine hK _ _ (Below.refl _ _) ?_; clear hK K)
        ((first | refine wpZ_u ?_ | skip); refine stepH_of (fun K hK => ?_); go_simp; refine hK _ _ (Below.refl _ _) ?_; clear hK K)
        refine wpZ_nil ?_
        have hF := hid (show bstF l h r b k = some (bst l h r (b ++ [k])) by unfold bstF; rw [hc]; simp)
        obtain ⟨y, hy⟩ : ∃ y, y = bst l h r (b ++ [k]) := ⟨_, rfl⟩
        rw [← hy] at hF HO6 ⊢
        clear hy
        rcases hacc with ⟨hn, rfl, rfl⟩ | ⟨x, gx, cx, hs, rfl, rfl, hox⟩
        · have HN := hid hn
          have HR := hid (accTo_first hF.out hn)
          clear hn
          go_wp2_with fail
          go_roundw
          case rel => exact ⟨k + 1, by omega, by go_num, HE.out.trans E6.out, .inr ⟨y, g2, c2, HR.out, rfl, rfl, HO6.out⟩⟩
          case measure => simp [intOf]; omega
        · have HOX := hid (own_ext hox E6.out)
          clear hox
          by_cases hlt2 : y.2 < x.2
          · have HR := hid (accTo_less hF.out hs hlt2)
            clear hs
            go_wp2_with fail
            go_roundw
            case rel => exact ⟨k + 1, by omega, by go_num, HE.out.trans E6.out, .inr ⟨y, g2, c2, HR.out, rfl, rfl, HO6.out⟩⟩
            case measure => simp [intOf]; omega
          · have HR := hid (accTo_more hF.out hs hlt2)
            clear hs
            go_wp2_with fail
            go_roundw
            case rel => exact ⟨k + 1, by omega, by go_num, HE.out.trans E6.out, .inr ⟨x, gx, cx, HR.out, rfl, rfl, HOX.out⟩⟩
            case measure => simp [intOf]; omega
    · obtain rfl : k = h := by omega
      have hbs := bst_succ l k r b
      rcases accTo_spec (bstF l k r b) k with ⟨_, h2⟩ | ⟨j, x, hj, hxj, ha, -, -⟩
      · exfalso
        obtain ⟨q, hq, hc⟩ := HB.out.free hbl
        have := h2 q hq
        unfold bstF at this
        rw [hc] at this
        simp at this
      · rw [ha] at hbs hacc
        have HBS := hid (show bst l k (r + 1) b = x from hbs)
        rcases hacc with ⟨hn, _⟩ | ⟨x', gx, cx, hs, rfl, rfl, hox⟩
        · cases hn
        · cases hs
          have HOX := hid hox
          clear hox ha hbs hxj
          go_wp2_with fail
          refine bodyPost_ret (v := .tuple #[.slice (some ⟨gx, 0, none⟩) k cx, .int .i64 x.2]) (by simp [results, Try.results53, go_sem]) rfl ?_
          rw [HBS.out]
          exact ⟨gx, cx, rfl, own_base HOX.out (by have := hsz.out; omega), hew.trans HE.out⟩
theorem best_any (h : Nat) (A : Option Addr) (c : Nat) (l : List T2) (hx : l.length ≤ 12) (h7 : h ≤ 7) (h1 : 1 ≤ h) (hf : doorsOk h l = true) : ∀ r, BestAt l h A c r
  | 0 => best_zero h A c l hx h7 h1 hf
  | r + 1 => best_succ h A c l hx h7 r (best_any h A c l hx h7 h1 hf r)
end Go.Proofs.Ytngniniiohgilaa
/- Walks: FewestSearchers of the program. Conditions: sizes. -/
namespace Go.Proofs.Ytngniniiohgilaa
open Go.RowKit
set_option linter.unusedVariables false

def fewest (h : Int) (l : List T2) : Int := if houseOk h l = true then (bst l h.toNat h.toNat []).2 else -1
theorem fewest_no {h : Int} {l : List T2} (g : houseOk h l = false) : fewest h l = -1 := by unfold fewest; rw [g]; simp
theorem fewest_yes {h : Int} {l : List T2} (g : houseOk h l = true) : fewest h l = (bst l h.toNat h.toNat []).2 := by unfold fewest; rw [if_pos g]
set_option maxRecDepth 100000 in
set_option maxHeartbeats 1600000 in
theorem iFewest_any (h : Int) (A : Option Addr) (n c : Nat) (l : List T2) (w : World) (hl : Row w A (l.flatMap T2.v)) (hn : l.length = n) (hx : n ≤ 1048577) :
    Gives Try.prog 17 #[.agg #[.int .i64 h, .slice A n c]] w (.int .i64 (fewest h l)) := by
  subst hn
  cases hk : houseOk h l
  · have HB := hid (fewest_no hk)
    (unfold Gives; go_enter Try.func17, Try.ntmps17)
    go_wp2_with (go_at_call 15; refine (gives_b hk (iHouseOk_any _ _ _ _ l _ (hl.ext (by repeat (first | exact Ext.refl _ | refine Ext.alloc ?_ _ | assumption | refine Ext.over ?_ _ | refine Ext.drew ?_ | refine Ext.drewN ?_ _))) rfl hx)).over.mono ?_; rintro e w' ⟨rfl, xw, rfl⟩)
    go_ret
    exact ⟨by rw [HB.out]; rfl, by repeat (first | exact Ext.refl _ | refine Ext.alloc ?_ _ | assumption | refine Ext.over ?_ _ | refine Ext.drew ?_ | refine Ext.drewN ?_ _)⟩
  have HB := hid (fewest_yes hk)
  obtain ⟨hd, h1, h7, h12⟩ := houseOk_bounds hk
  have HD := hid hd
  clear hd
  obtain ⟨h, rfl⟩ : ∃ k : Nat, h = k := ⟨h.toNat, by omega⟩
  (unfold Gives; go_enter Try.func17, Try.ntmps17)
  go_wp2_with (go_at_call 15; refine (gives_b hk (iHouseOk_any _ _ _ _ l _ (hl.ext (by repeat (first | exact Ext.refl _ | refine Ext.alloc ?_ _ | assumption | refine Ext.over ?_ _ | refine Ext.drew ?_ | refine Ext.drewN ?_ _))) rfl hx)).over.mono ?_; rintro e w' ⟨rfl, xw, rfl⟩)
  refine (best_any h A c l h12 (by omega) (by omega) HD.out h [] none 0 0 _ (hl.ext (by repeat (first | exact Ext.refl _ | refine Ext.alloc ?_ _ | assumption | refine Ext.over ?_ _ | refine Ext.drew ?_ | refine Ext.drewN ?_ _))) (Row.nil _ _) rfl ⟨List.nodup_nil, by simp⟩ (by omega) (fun _ => ⟨rfl, rfl⟩) (by omega)).mono ?_
  rintro _ w2 ⟨g, c', rfl, ho, he⟩
  have E2 := hid (Ext.trans (show Ext w _ by repeat (first | exact Ext.refl _ | refine Ext.alloc ?_ _ | assumption | refine Ext.over ?_ _ | refine Ext.drew ?_ | refine Ext.drewN ?_ _)) he)
  clear ho he
  go_wp2_with fail
  go_ret
  exact ⟨by rw [HB.out, Int.toNat_natCast]; rfl, E2.out⟩
end Go.Proofs.Ytngniniiohgilaa
/- Walks: BestOrder. Conditions: sizes. -/
namespace Go.Proofs.Ytngniniiohgilaa
open Go.RowKit
set_option linter.unusedVariables false

def bestOrder (h : Int) (l : List T2) : List Int := if houseOk h l = true then ci (bst l h.toNat h.toNat []).1 else []
theorem bestOrder_no {h : Int} {l : List T2} (g : houseOk h l = false) : bestOrder h l = [] := by unfold bestOrder; rw [g]; simp
theorem bestOrder_yes {h : Int} {l : List T2} (g : houseOk h l = true) : bestOrder h l = ci (bst l h.toNat h.toNat []).1 := by unfold bestOrder; rw [if_pos g]
theorem bestOrder_len (h : Int) (l : List T2) : (bestOrder h l).length ≤ 7 := by
  unfold bestOrder
  split
  · rename_i g
    obtain ⟨_, _, h7, _⟩ := houseOk_bounds g
    have := bst_ord l h.toNat h.toNat [] ⟨List.nodup_nil, by simp⟩ (by simp)
    rw [ci_len]
    omega
  · simp
set_option maxRecDepth 100000 in
set_option maxHeartbeats 1600000 in
theorem iBest_any (h : Int) (A : Option Addr) (n c : Nat) (l : List T2) (w : World) (hl : Row w A (l.flatMap T2.v)) (hn : l.length = n) (hx : n ≤ 1048577) :
    Calls Try.prog 18 #[.agg #[.int .i64 h, .slice A n c]] w fun en w' => ∃ A' m' c', en = .returned (.slice A' m' c') ∧ w'.ownsRow w.heap.size 3 1 (.slice A' m' c') m' ((bestOrder h l).map (Value.int .i64)) ∧ Ext w w' := by
  subst hn
  cases hk : houseOk h l
  · have HB := hid (bestOrder_no hk)
    go_enter Try.func18, Try.ntmps18
    go_wp2_with (go_at_call 15; refine (gives_b hk (iHouseOk_any _ _ _ _ l _ (hl.ext (by repeat (first | exact Ext.refl _ | refine Ext.alloc ?_ _ | assumption | refine Ext.over ?_ _ | refine Ext.drew ?_ | refine Ext.drewN ?_ _))) rfl hx)).over.mono ?_; rintro e w' ⟨rfl, xw, rfl⟩)
    go_ret
    rw [HB.out]
    exact ⟨_, _, _, rfl, World.ownsRow_nil _ _ _ _, by repeat (first | exact Ext.refl _ | refine Ext.alloc ?_ _ | assumption | refine Ext.over ?_ _ | refine Ext.drew ?_ | refine Ext.drewN ?_ _)⟩
  have HB := hid (bestOrder_yes hk)
  obtain ⟨hd, h1, h7, h12⟩ := houseOk_bounds hk
  have HD := hid hd
  clear hd
  obtain ⟨h, rfl⟩ : ∃ k : Nat, h = k := ⟨h.toNat, by omega⟩
  go_enter Try.func18, Try.ntmps18
  go_wp2_with (go_at_call 15; refine (gives_b hk (iHouseOk_any _ _ _ _ l _ (hl.ext (by repeat (first | exact Ext.refl _ | refine Ext.alloc ?_ _ | assumption | refine Ext.over ?_ _ | refine Ext.drew ?_ | refine Ext.drewN ?_ _))) rfl hx)).over.mono ?_; rintro e w' ⟨rfl, xw, rfl⟩)
  refine (best_any h A c l h12 (by omega) (by omega) HD.out h [] none 0 0 _ (hl.ext (by repeat (first | exact Ext.refl _ | refine Ext.alloc ?_ _ | assumption | refine Ext.over ?_ _ | refine Ext.drew ?_ | refine Ext.drewN ?_ _))) (Row.nil _ _) rfl ⟨List.nodup_nil, by simp⟩ (by omega) (fun _ => ⟨rfl, rfl⟩) (by omega)).mono ?_
  rintro _ w2 ⟨g, c', rfl, ho, he⟩
  have E2 := hid (Ext.trans (show Ext w _ by repeat (first | exact Ext.refl _ | refine Ext.alloc ?_ _ | assumption | refine Ext.over ?_ _ | refine Ext.drew ?_ | refine Ext.drewN ?_ _)) he)
  have HO := hid (own_base (base' := w.heap.size) ho (show Ext w _ by repeat (first | exact Ext.refl _ | refine Ext.alloc ?_ _ | assumption | refine Ext.over ?_ _ | refine Ext.drew ?_ | refine Ext.drewN ?_ _)).size)
  clear ho he
  go_wp2_with fail
  go_ret
  rw [HB.out, Int.toNat_natCast]
  exact ⟨_, _, _, rfl, HO.out, E2.out⟩
set_option maxRecDepth 100000 in
set_option maxHeartbeats 6400000 in
theorem sBest_any (h : Int) (A : Option Addr) (n c : Nat) (l : List T2) (w : World) (hl : Row w A (l.flatMap T2.v)) (hn : l.length = n) (hx : n ≤ 1048577) :
    Calls Try.prog 32 #[.agg #[.int .i64 h, .slice A n c]] w fun en w' => ∃ A' m' c', en = .returned (.slice A' m' c') ∧ w'.ownsRow w.heap.size 3 1 (.slice A' m' c') m' ((bestOrder h l).map (Value.int .i64)) ∧ Ext w w' := by
  subst hn
  cases hk : houseOk h l
  · have HB := hid (bestOrder_no hk)
    have HO := hid (own_empty (w.alloc (.cells #[.int .i64 h, .slice A l.length c] 26)) (w.heap.size + 1) w.heap.size (by simp) (by simp) 3 1)
    go_enter Try.func32, Try.ntmps32
    go_wp2_with (go_at_call 64; refine (gives_b hk (sHouseOk_any _ _ _ _ l _ (hl.ext (by repeat (first | exact Ext.refl _ | refine Ext.alloc ?_ _ | assumption | refine Ext.over ?_ _ | refine Ext.drew ?_ | refine Ext.drewN ?_ _))) rfl hx)).over.mono ?_; rintro e w' ⟨rfl, xw, rfl⟩)
    go_ret
    rw [HB.out]
    exact ⟨_, _, _, rfl, own_ext HO.out (by repeat (first | exact Ext.refl _ | refine Ext.alloc ?_ _ | assumption | refine Ext.over ?_ _ | refine Ext.drew ?_ | refine Ext.drewN ?_ _)), by repeat (first | exact Ext.refl _ | refine Ext.alloc ?_ _ | assumption | refine Ext.over ?_ _ | refine Ext.drew ?_ | refine Ext.drewN ?_ _)⟩
  have HB := hid (bestOrder_yes hk)
  obtain ⟨hd, h1, h7, h12⟩ := houseOk_bounds hk
  clear hd
  obtain ⟨h, rfl⟩ : ∃ k : Nat, h = k := ⟨h.toNat, by omega⟩
  obtain ⟨hp, hp'⟩ := pow_small (show h ≤ 8 by omega)
  have hp7 : 2 ^ h ≤ 128 := Nat.pow_le_pow_right (by omega) (show h ≤ 7 by omega)
  obtain ⟨N, hN⟩ : ∃ N, N = 2 ^ h := ⟨_, rfl⟩
  have HN := hid hN
  rw [← hN] at hp7
  clear hN hp hp'
  obtain ⟨wb, hwb⟩ : ∃ wb, wb = (w.alloc (.cells #[.int .i64 ↑h, .slice A l.length c] 26)).alloc (.cells #[] 3) := ⟨_, rfl⟩
  have hew : Ext w wb := by rw [hwb]; repeat (first | exact Ext.refl _ | refine Ext.alloc ?_ _ | assumption | refine Ext.over ?_ _ | refine Ext.drew ?_ | refine Ext.drewN ?_ _)
  have hsz := hid (show wb.heap.size = w.heap.size + 2 by rw [hwb]; simp)
  have hb0 : wb.cell? ⟨w.heap.size, 0, none⟩ = some (.int .i64 ↑h) := by rw [hwb]; go_simp
  have hb1 : wb.cell? ⟨w.heap.size, 1, none⟩ = some (.slice A l.length c) := by rw [hwb]; go_simp
  have HO0 := hid (show wb.ownsRow w.heap.size 3 1 (.slice (some ⟨w.heap.size + 1, 0, none⟩) 0 0) 0 [] by rw [hwb]; exact own_empty _ _ _ (by simp) (by simp) _ _)
  have HK := hid hk
  go_enter Try.func32, Try.ntmps32
  go_wp2_with (go_at_call 64; refine (gives_b HK.out (sHouseOk_any _ _ _ _ l _ (hl.ext (by repeat (first | exact Ext.refl _ | refine Ext.alloc ?_ _ | assumption | refine Ext.over ?_ _ | refine Ext.drew ?_ | refine Ext.drewN ?_ _))) rfl hx)).over.mono ?_; rintro e w' ⟨rfl, xw, rfl⟩)
  refine (l24Best_any h A l.length c l _ (hl.ext (by repeat (first | exact Ext.refl _ | refine Ext.alloc ?_ _ | assumption | refine Ext.over ?_ _ | refine Ext.drew ?_ | refine Ext.drewN ?_ _))) rfl h12 (by omega) (by omega)).mono ?_
  rintro _ w1 ⟨gt, v, cs, rfl, ho, ht, he⟩
  have E1 := hid (show Ext wb w1 by rw [hwb]; exact Ext.trans (by repeat (first | exact Ext.refl _ | refine Ext.alloc ?_ _ | assumption | refine Ext.over ?_ _ | refine Ext.drew ?_ | refine Ext.drewN ?_ _)) he)
  have HT := hid ht
  have hgl := ho.lt gt rfl
  have hg2 : w.heap.size + 2 ≤ gt := Nat.le_trans (by rw [← hsz.out, hwb]; exact (show Ext _ _ by repeat (first | exact Ext.refl _ | refine Ext.alloc ?_ _ | assumption | refine Ext.over ?_ _ | refine Ext.drew ?_ | refine Ext.drewN ?_ _)).size) hgl.1
  have hg3 : gt < w1.heap.size := hgl.2
  have hs1 : w.heap.size + 2 ≤ w1.heap.size := by omega
  have HC := hid (show ∀ T, T < N → w1.cell? ⟨gt, T, none⟩ = some (.int .i64 (v T)) from fun T hT => by
    rw [ho.cellAt T (by rw [← HN.out]; omega)]; exact ht.1 T (by omega) (by rw [← HN.out]; exact hT))
  have HO1 := hid (own_ext HO0.out E1.out)
  have HV := hid ht.rec
  have hvb := fun T => ht.2.2.2 T
  have HVB := hid hvb
  rw [← HN.out]
  clear ho ht he hgl hwb hk hvb
  go_wp2_with fail
  go_loopw [3, 5] (fun ov sv wr => ∃ (b : List Nat) (A' : Option Addr) (c' : Nat), Beg h b ∧ b.length ≤ h ∧ bst l h (h - b.length) b = bst l h h [] ∧ ov = .slice A' b.length c' ∧ sv = .int .i64 (setN b) ∧ wr.ownsRow w.heap.size 3 1 (.slice A' b.length c') b.length ((ci b).map (Value.int .i64)) ∧ OutAt w1 wr (w.heap.size + 1) A') (fun ov _ _ => h - lenV ov)
  case atStart => exact ⟨[], _, _, ⟨List.nodup_nil, by simp⟩, by simp, rfl, rfl, rfl, HO1.out, OutAt.refl _ _⟩
  case round =>
    rename World => wo
    obtain ⟨b, A', c', hbeg, hbl, hbst, rfl, rfl, hown, hout⟩ := hrel
    have HBG := hid hbeg
    have HBS := hid hbst
    have HO := hid hown
    have HOT := hid hout
    have HEX := hid (hout.out (hew.trans E1.out) (by omega))
    have b0 : wo.cell? ⟨w.heap.size, 0, none⟩ = some (.int .i64 ↑h) := (hout.cell (p := ⟨w.heap.size, 0, none⟩) (by show w.heap.size < _; omega) (by show w.heap.size ≠ _; omega)).trans (old_cell E1.out hb0)
    have b1 : wo.cell? ⟨w.heap.size, 1, none⟩ = some (.slice A l.length c) := (hout.cell (p := ⟨w.heap.size, 1, none⟩) (by show w.heap.size < _; omega) (by show w.heap.size ≠ _; omega)).trans (old_cell E1.out hb1)
    have HCO := hid (show ∀ T, T < N → wo.cell? ⟨gt, T, none⟩ = some (.int .i64 (v T)) from fun T hT => (hout.cell (p := ⟨gt, T, none⟩) (by exact hg3) (by show gt ≠ _; omega)).trans (HC.out T hT))
    have HL := hid (hl.ext HEX.out)
    clear hbeg hbst hown hout
    by_cases hlt : b.length < h
    · obtain ⟨r, hr⟩ : ∃ r, h - b.length = r + 1 := ⟨h - b.length - 1, by omega⟩
      have hnx := bst_next (l := l) (v := v) (by omega) HV.out (r := r) HBG.out (by omega) (by rw [← hr]; exact HBS.out)
      obtain ⟨j, hj, hjc, hjm, hjn, hjb⟩ := hnx
      have HJN := hid hjn
      have HJB := hid hjb
      have HRR := hid (show h - (b ++ [j]).length = r by simp; omega)
      have HRM := hid (show h - (b.length + 1) < h - b.length by omega)
      have hSN := setN_lt HBG.out
      have HTB := hid (setN_test (b := b))
      have HSN := hid (setN_snoc b j)
      have hbo := bord_bound l h (setN b)
      obtain ⟨S, hS⟩ : ∃ S, S = setN b := ⟨_, rfl⟩
      rw [← hS, ← HN.out] at hSN
      rw [← hS] at hjm HJN HTB HSN hbo ⊢
      have hS128 : S < 128 := by omega
      have HSS := hid hS
      obtain ⟨bo, hbd⟩ : ∃ bo, bo = bord l h S := ⟨_, rfl⟩
      rw [← hbd] at hjm HJN hbo
      have HBD := hid hbd.symm
      obtain ⟨v0, hv0⟩ : ∃ v0, v0 = v 0 := ⟨_, rfl⟩
      rw [← hv0] at hjm HJN
      have HV0 := hid hv0
      have HJM := hid hjm
      have hw1 : IntKind.i64.wrap (bo + 1) = bo + 1 := IntWalk.i64_in _ ⟨by omega, by omega⟩
      clear hjn hjb hS hbd hv0 hjm hr
      go_wp2_with fail
      go_loopw [3, 5, 6] (fun ov sv kv wr => ∃ k : Nat, k ≤ j ∧ kv = .int .i64 ↑k ∧ ov = .slice A' b.length c' ∧ sv = .int .i64 (S : Nat) ∧ Ext wo wr) (fun _ _ kv _ => j - (intOf kv).toNat)
      case atStart => exact ⟨0, by omega, rfl, rfl, rfl, Ext.refl _⟩
      case round =>
        obtain ⟨k, hk, rfl, rfl, rfl, he⟩ := hrel
        have HE := hid he
        have p0 := old_cell he b0
        have p1 := old_cell he b1
        have HLW := hid (HL.out.ext he)
        have HCW := hid (show ∀ T, T < N → wr.cell? ⟨gt, T, none⟩ = some (.int .i64 (v T)) from fun T hT => old_cell he (HCO.out T hT))
        have HOW := hid (own_ext HO.out he)
        have HTW := hid (HOT.out.ext he)
        have hkh : k < h := by omega
        clear he b0 b1
        cases hb : S.testBit k
        rotate_left
        · obtain ⟨e0, e1⟩ := bit_yes (k := k) (show S < 256 by omega) hb
          have hkj : k < j := by
            rcases Nat.lt_or_ge k j with h5 | h5
            · exact h5
            · obtain rfl : k = j := by omega
              rw [HTB.out, hjc] at hb
              cases hb
          go_wp2_with fail
          (refine wp_region_calm (by kernel_rfl) (by kernel_rfl) ?_; (repeat (go_big_quiet_step (fail))); refine wpQuiet_nil ?_; rintro w1 ⟨x1, rfl⟩)
          go_wp2_with fail
          go_roundw
          case rel => exact ⟨k + 1, by omega, by go_num, rfl, rfl, HE.out.trans (by repeat (first | exact Ext.refl _ | refine Ext.alloc ?_ _ | assumption | refine Ext.over ?_ _ | refine Ext.drew ?_ | refine Ext.drewN ?_ _))⟩
          case measure => simp [intOf]; omega
        · obtain ⟨e0, e1⟩ := bit_no (k := k) (show S < 256 by omega) hb
          obtain ⟨hor, hor'⟩ := or_bit hS128 (show k < 7 by omega)
          obtain ⟨Q, hQ⟩ : ∃ Q, Q = S ||| 2 ^ k := ⟨_, rfl⟩
          have hQN : Q < N := by
            rw [hQ, HN.out]
            exact Nat.or_lt_two_pow (by rw [← HN.out]; exact hSN) (Nat.pow_lt_pow_right (by omega) hkh)
          rw [← hQ] at hor hor'
          have hor2 : bits .or .i64 (S : Int) (IntKind.i64.wrap (2 ^ k)) = (Q : Int) := by rw [IntWalk.i64_left]; exact hor
          have HQ := hid hQ
          have hvq := HVB.out Q
          obtain ⟨y, hy1⟩ : ∃ y, y = v Q := ⟨_, rfl⟩
          rw [← hy1] at hvq
          have c2 : wr.cell? ⟨gt, Q, none⟩ = some (.int .i64 y) := by rw [hy1]; exact HCW.out Q hQN
          have c0 : wr.cell? ⟨gt, 0, none⟩ = some (.int .i64 v0) := by rw [HV0.out]; exact HCW.out 0 (by omega)
          have HY := hid hy1
          clear hQ hy1
          rcases Nat.lt_or_ge k j with hkj | hkj
          · have htest : decide ((if bo + 1 < y then y else bo + 1) ≤ v0) = false := by
              have h5 := HJN.out k hkj (by rw [← HTB.out]; exact hb)
              rw [← HQ.out, ← HY.out] at h5
              rw [decide_eq_false_iff_not]
              split <;> omega
            go_wp2_with fail
            (refine wp_region_calm (by kernel_rfl) (by kernel_rfl) ?_; (repeat (go_big_quiet_step ((go_at_call 67; exact (gives_v HBD.out (border_any h _ _ _ l S _ (HLW.out.ext (by repeat (first | exact Ext.refl _ | refine Ext.alloc ?_ _ | assumption | refine Ext.over ?_ _ | refine Ext.drew ?_ | refine Ext.drewN ?_ _))) rfl (by omega) (by omega) hS128)).calm)))); refine wpQuiet_nil ?_; rintro w1 ⟨x1, rfl⟩)
            go_wp2_with fail
            go_roundw
            case rel => exact ⟨k + 1, by omega, by go_num, rfl, rfl, HE.out.trans (by repeat (first | exact Ext.refl _ | refine Ext.alloc ?_ _ | assumption | refine Ext.over ?_ _ | refine Ext.drew ?_ | refine Ext.drewN ?_ _))⟩
            case measure => simp [intOf]; omega
          · obtain rfl : k = j := by omega
            rcases Int.lt_or_le (bo + 1) y with hmx | hmx
            all_goals
              have htest : decide ((if bo + 1 < y then y else bo + 1) ≤ v0) = true := by
                have h5 := HJM.out
                rw [← HQ.out, ← HY.out] at h5
                rw [decide_eq_true_eq]
                split <;> omega
              have htest2 : (if bo + 1 < y then y else bo + 1) ≤ v0 := of_decide_eq_true htest
              first | rw [if_pos hmx] at htest htest2 | rw [if_neg (by omega)] at htest htest2
              go_wp2_with fail
              (refine wp_region_calm (by kernel_rfl) (by kernel_rfl) ?_; (repeat (go_big_quiet_step ((go_at_call 67; exact (gives_v HBD.out (border_any h _ _ _ l S _ (HLW.out.ext (by repeat (first | exact Ext.refl _ | refine Ext.alloc ?_ _ | assumption | refine Ext.over ?_ _ | refine Ext.drew ?_ | refine Ext.drewN ?_ _))) rfl (by omega) (by omega) hS128)).calm)))); refine wpQuiet_nil ?_; rintro w1 ⟨x1, rfl⟩)
              go_wp2_with (at_builtin; refine wpList_pushO (w1) (w.heap.size + 1) rfl (.tmp 48) (.tmp 50) 31 rfl 3 Try.underlying31 info_int rfl (by decide) (w.heap.size) _ b.length _ _ rfl (wr) HOW.out HTW.out (by repeat (first | exact Ext.refl _ | refine Ext.alloc ?_ _ | assumption | refine Ext.over ?_ _ | refine Ext.drew ?_ | refine Ext.drewN ?_ _)) ?_ _ 1 1 [.int .i64 (k)] rfl rfl (lit_cells _ _ (by first | (simp; done) | simp [ovr_size]) _ _) (by intro u hu; simp at hu; subst hu; rfl) (by decide) (by omega) (by decide) ?_)
              · omega
              intro A3 c3 w3 hown3 hout3
              have HO3 := hid hown3
              have HT3 := hid hout3
              clear hown3 hout3
              go_wp2_with fail
              go_roundw
              case rel =>
                refine ⟨b ++ [k], A3, c3, HBG.out.snoc hj hjc, by simp; omega, ?_, by simp, ?_, ?_, HT3.out⟩
                · rw [HRR.out]; exact HJB.out
                · rw [HSN.out, ← HQ.out]
                · rw [ci_app, List.map_append]; simpa using HO3.out
              case measure => have h9 := HRM.out; simp only [lenV]; first | exact h9 | omega
    · have HR := hid (show bestOrder h l = ci b by
        rw [HB.out, Int.toNat_natCast, ← HBS.out, show h - b.length = 0 by omega]; rfl)
      go_wp2_with fail
      go_ret
      rw [HR.out]
      exact ⟨_, _, _, rfl, HO.out, HEX.out⟩
end Go.Proofs.Ytngniniiohgilaa
/- Plain law: what the law of the searches asks. -/
namespace Go.Proofs.Ytngniniiohgilaa
open Go.RowKit
set_option linter.unusedVariables false

theorem order_ci {h : Nat} {l : List T2} {o : List Nat} (g : houseOk h l = true) (hb : Beg h o) (hl : o.length = h) : orderOk h l (ci o) = true := by
  rw [orderOk_all (fun k hk => ?_), g, ci_len, hl]
  · simp
  · rw [ci_len] at hk
    refine ord_ok ?_ ?_
    · rw [ci_at hk, btw_iff]
      have := hb.2 _ (List.getElem_mem hk)
      omega
    · rw [ci_at hk]
      rcases hm : memI ((ci o).take k) (o[k] : Nat) with _ | _
      · rfl
      · exfalso
        rw [memI_iff] at hm
        unfold ci at hm
        rw [← List.map_take, List.mem_map] at hm
        obtain ⟨x, hx, e⟩ := hm
        have hx' : x = o[k] := by exact_mod_cast e
        obtain ⟨j, hj, hjx⟩ := List.getElem_of_mem hx
        rw [List.length_take] at hj
        rw [List.getElem_take] at hjx
        exact List.pairwise_iff_getElem.1 hb.1 j k (by omega) hk (by omega) (hjx.trans hx')
theorem halls_half {h q : Nat} {l : List T2} {o : List Nat} (g : houseOk h l = true) (hb : Beg h o) : halls h l ((ci o).take q) = true := by
  refine halls_iff.2 ⟨g, fun k hk => ?_⟩
  rw [List.length_take, ci_len] at hk
  have hk1 : k < o.length := by omega
  have e : atI ((ci o).take q) k = (o[k] : Nat) := by
    rw [atI_eq _ _ (by rw [List.length_take, ci_len]; exact hk), List.getElem_take]; simp [ci]
  have := hb.2 _ (List.getElem_mem hk1)
  rw [e]; omega
theorem guards_in {h : Int} {l : List T2} {s : List Int} {k : Nat} (hk : k < (guardsOf h l s).length) : memI s (atI (guardsOf h l s) k) = true := by
  have hm : atI (guardsOf h l s) k ∈ guardsOf h l s := by rw [atI_eq _ _ hk]; exact List.getElem_mem hk
  have key : ∀ x ∈ guardsOf h l s, memI s x = true := by
    intro x hx
    unfold guardsOf at hx
    split at hx
    · unfold gaL at hx
      rw [idxs_mem] at hx
      obtain ⟨j, hj, h2, h3⟩ := hx
      unfold gaP memN at h3
      rw [Bool.and_eq_true] at h3
      first | exact hj ▸ h3.1 | exact h2 ▸ h3.1
    · cases hx
  exact key _ hm
/-- All that the law asks of the numbers. -/
theorem search_sums {h q : Nat} {l : List T2} {o : List Nat} (g : houseOk h l = true) (hb : Beg h o) (hl : o.length = h) (hq : q < h) :
    ∃ N F : Int, fewest h l = N ∧ forOf h l (ci o) = F ∧ orderOk h l (bestOrder h l) = true ∧ forOf h l (bestOrder h l) = N ∧ N ≤ F ∧ N ≤ h ∧ F ≤ 8 ∧ ((guardsOf h l ((ci o).take q)).length : Int) + 1 ≤ F ∧ (∃ v, v < h ∧ (deg l h v : Int) + 1 ≤ N) ∧ (N == 1) = ((h : Int) == 1) := by
  obtain ⟨hd, h1, h7, _⟩ := houseOk_bounds g
  obtain ⟨b1, b2, b3⟩ := bst_ord l h h [] ⟨List.nodup_nil, by simp⟩ (by simp)
  have eB : bestOrder h l = ci (bst l h h []).1 := by rw [bestOrder_yes g, Int.toNat_natCast]
  have eN : fewest h l = (bst l h h []).2 := by rw [fewest_yes g, Int.toNat_natCast]
  have eF : forOf h l (ci o) = forTo l h (ci o) h := by rw [forOf_yes (order_ci g hb hl), Int.toNat_natCast, ci_len, hl]
  have eFB : forOf h l (bestOrder h l) = (bst l h h []).2 := by rw [eB, forOf_yes (order_ci g b1 b2), Int.toNat_natCast, ci_len, b2, b3]
  have s1 := bst_le l h h [] o hb hl (by simp)
  rw [List.nil_append] at s1
  have s2 : (bst l h h []).2 ≤ h := by
    rw [b3]
    refine forTo_le (by omega) (fun i hi => ?_)
    have := fTo_le (l := l) (h := h) (b := (bst l h h []).1) i (by omega)
    omega
  have s3 := (forTo_bound l h (ci o) h).2
  have s4 := forTo_ge l h (ci o) hq
  have s5 : ((guardsOf h l ((ci o).take q)).length : Int) + 1 ≤ forTo l h (ci o) h := by
    rw [guardsOf_yes (halls_half g hb), Int.toNat_natCast]
    exact s4
  obtain ⟨v, hv, hdv⟩ := need_deg hd b1 b2 (by omega)
  rw [← b3] at hdv
  refine ⟨_, _, eN, eF, by rw [eB]; exact order_ci g b1 b2, eFB, s1, s2, by omega, s5, ⟨v, hv, hdv⟩, ?_⟩
  rw [Bool.eq_iff_iff, beq_iff_eq, beq_iff_eq]
  constructor
  · intro e
    rcases Nat.lt_or_ge 1 h with h2 | h2
    · have := deg_pos g hv h2; omega
    · omega
  · intro e; omega
end Go.Proofs.Ytngniniiohgilaa
/- Walks: HasDoor, DoorsFrom. Conditions: sizes. -/
namespace Go.Proofs.Ytngniniiohgilaa
open Go.RowKit
set_option linter.unusedVariables false

def idxD (l : List T2) (a b : Int) : Int := firstN l.length (fun k => a == (at2 l k).a && b == (at2 l k).b)
def memD (l : List T2) (a b : Int) : Bool := decide (0 ≤ idxD l a b)
set_option maxHeartbeats 1600000 in
theorem IndexD_any (A : Option Addr) (n c : Nat) (l : List T2) (a b : Int) (w : World) (hl : Row w A (l.flatMap T2.v)) (hn : l.length = n) (hx : n ≤ 1048577) :
    Gives Try.prog 73 #[.slice A n c, .agg #[.int .i64 a, .int .i64 b]] w (.int .i64 (idxD l a b)) := by
  subst hn
  unfold Gives
  go_enter Try.func73, Try.ntmps73
  go_wp2_with fail
  go_loopw [8] (fun i wr => ∃ (k : Nat), (∀ j, j < k → (a == (at2 l j).a && b == (at2 l j).b) = false) ∧ k ≤ l.length ∧ i = .int .i64 ↑k ∧ Ext w wr ∧ wr.cell? ⟨w.heap.size, 0, none⟩ = some (.int .i64 a) ∧ wr.cell? ⟨w.heap.size, 1, none⟩ = some (.int .i64 b)) (fun i _ => (l.length - (intOf i).toNat))
  case atStart => exact ⟨0, by omega, by omega, rfl, by repeat (first | exact Ext.refl _ | refine Ext.alloc ?_ _ | assumption | refine Ext.over ?_ _ | refine Ext.drew ?_ | refine Ext.drewN ?_ _), by go_simp, by go_simp⟩
  case round =>
    obtain ⟨k, hk, hkn, rfl, he, b0, b1⟩ := hrel
    have HK := hid hk
    have HE := hid he
    have HR := hid (hl.ext he)
    clear hk he hl
    by_cases hlt : k < l.length
    · obtain ⟨bA, off, hA, hc⟩ := HR.out.t2 hlt
      subst hA
      obtain ⟨c1, c2⟩ := hc k hlt
      clear hc
      cases g1 : (a == (at2 l k).a)
      · go_wp2_with fail
        go_region
        go_wp2_with fail
        go_roundw
        case rel => exact ⟨k + 1, lt_succ_all HK.out (by rw [g1]; rfl), by omega, by go_num, HE.out.trans (by repeat (first | exact Ext.refl _ | refine Ext.alloc ?_ _ | assumption | refine Ext.over ?_ _ | refine Ext.drew ?_ | refine Ext.drewN ?_ _)), by go_simp, by go_simp⟩
        case measure => simp [intOf]; omega
      cases g2 : (b == (at2 l k).b)
      · go_wp2_with fail
        go_region
        go_wp2_with fail
        go_roundw
        case rel => exact ⟨k + 1, lt_succ_all HK.out (by rw [g1, g2]; rfl), by omega, by go_num, HE.out.trans (by repeat (first | exact Ext.refl _ | refine Ext.alloc ?_ _ | assumption | refine Ext.over ?_ _ | refine Ext.drew ?_ | refine Ext.drewN ?_ _)), by go_simp, by go_simp⟩
        case measure => simp [intOf]; omega
      · have HH := hid (show idxD l a b = k by unfold idxD; exact firstN_hit HK.out hlt (by rw [g1, g2]; rfl))
        go_wp2_with fail
        go_region
        go_wp2_with fail
        go_ret
        exact ⟨by rw [HH.out]; rfl, HE.out.trans (by repeat (first | exact Ext.refl _ | refine Ext.alloc ?_ _ | assumption | refine Ext.over ?_ _ | refine Ext.drew ?_ | refine Ext.drewN ?_ _))⟩
    · go_wp2_with fail
      go_ret
      exact ⟨by rw [idxD, firstN_none (fun j hj => HK.out j (by omega))]; rfl, HE.out⟩
set_option maxHeartbeats 1600000 in
theorem ContainsD_any (A : Option Addr) (n c : Nat) (l : List T2) (a b : Int) (w : World) (hl : Row w A (l.flatMap T2.v)) (hn : l.length = n) (hx : n ≤ 1048577) :
    Gives Try.prog 45 #[.slice A n c, .agg #[.int .i64 a, .int .i64 b]] w (.bool (memD l a b)) := by
  unfold Gives memD
  go_enter Try.func45, Try.ntmps45
  go_wp2_with (go_at_call 73; refine (IndexD_any _ _ _ l _ _ _ (hl.ext (by repeat (first | exact Ext.refl _ | refine Ext.alloc ?_ _ | assumption | refine Ext.over ?_ _ | refine Ext.drew ?_ | refine Ext.drewN ?_ _))) hn hx).over.mono ?_; rintro e w' ⟨rfl, xw, rfl⟩)
  all_goals (go_ret; refine ⟨by first | rfl | (go_tidy; simp_all; done) | (go_tidy; simp at *; omega), ?_⟩; repeat (first | exact Ext.refl _ | refine Ext.alloc ?_ _ | assumption | refine Ext.over ?_ _ | refine Ext.drew ?_ | refine Ext.drewN ?_ _))
theorem memD_iff {l : List T2} {a b : Int} : memD l a b = true ↔ ∃ k, k < l.length ∧ a = (at2 l k).a ∧ b = (at2 l k).b := by
  unfold memD idxD
  rw [decide_eq_true_eq, firstN_nonneg]
  simp
theorem memD_has {l : List T2} {a b : Int} : memD l (min a b) (max a b) = hasD l a b := by
  rw [Bool.eq_iff_iff, memD_iff]
  unfold hasD
  rw [List.any_eq_true]
  constructor
  · rintro ⟨k, hk, h1, h2⟩
    refine ⟨at2 l k, by rw [at2_eq _ _ hk]; exact List.getElem_mem hk, ?_⟩
    unfold isD
    rw [← h1, ← h2]; simp
  · rintro ⟨d, hd, h⟩
    obtain ⟨k, hk, rfl⟩ := List.getElem_of_mem hd
    unfold isD at h
    simp only [Bool.and_eq_true, beq_iff_eq] at h
    exact ⟨k, hk, by rw [at2_eq _ _ hk]; exact h.1.symm, by rw [at2_eq _ _ hk]; exact h.2.symm⟩
def hasDoor (h : Int) (l : List T2) (a b : Int) : Bool := houseOk h l && hasD l a b
theorem hasD_self {h : Int} {l : List T2} {a : Int} (hf : doorsOk h l = true) : hasD l a a = false := by
  refine hasD_no fun j hj => ?_
  have h1 := allN_iff.1 hf j hj
  unfold doorAt at h1
  simp only [Bool.and_eq_true, Bool.not_eq_true'] at h1
  have h2 := h1.1
  unfold badD at h2
  simp only [Bool.or_eq_false_iff, decide_eq_false_iff_not] at h2
  unfold isD
  rw [Int.min_self, Int.max_self, Bool.and_eq_false_iff]
  rw [beq_eq_false_iff_ne, beq_eq_false_iff_ne]
  omega
set_option maxHeartbeats 1600000 in
theorem iHasDoor_any (h : Int) (A : Option Addr) (n c : Nat) (l : List T2) (a b : Int) (w : World) (hl : Row w A (l.flatMap T2.v)) (hn : l.length = n) (hx : n ≤ 1048577) :
    Gives Try.prog 12 #[.agg #[.int .i64 h, .slice A n c], .int .i64 a, .int .i64 b] w (.bool (hasDoor h l a b)) := by
  subst hn
  cases hk : houseOk h l
  · have HB := hid (show hasDoor h l a b = false by unfold hasDoor; rw [hk]; rfl)
    (unfold Gives; go_enter Try.func12, Try.ntmps12)
    go_wp2_with (go_at_call 15; refine (gives_b hk (iHouseOk_any _ _ _ _ l _ (hl.ext (by repeat (first | exact Ext.refl _ | refine Ext.alloc ?_ _ | assumption | refine Ext.over ?_ _ | refine Ext.drew ?_ | refine Ext.drewN ?_ _))) rfl hx)).over.mono ?_; rintro e w' ⟨rfl, xw, rfl⟩)
    go_ret
    exact ⟨by rw [HB.out]; rfl, by repeat (first | exact Ext.refl _ | refine Ext.alloc ?_ _ | assumption | refine Ext.over ?_ _ | refine Ext.drew ?_ | refine Ext.drewN ?_ _)⟩
  · have HB := hid (show hasDoor h l a b = memD l (min a b) (max a b) by unfold hasDoor; rw [hk, memD_has]; rfl)
    (unfold Gives; go_enter Try.func12, Try.ntmps12)
    go_wp2_with (first | (go_at_call 15; refine (gives_b hk (iHouseOk_any _ _ _ _ l _ (hl.ext (by repeat (first | exact Ext.refl _ | refine Ext.alloc ?_ _ | assumption | refine Ext.over ?_ _ | refine Ext.drew ?_ | refine Ext.drewN ?_ _))) rfl hx)).over.mono ?_; rintro e w' ⟨rfl, xw, rfl⟩) | (go_at_call 45; refine (ContainsD_any _ _ _ l _ _ _ (hl.ext (by repeat (first | exact Ext.refl _ | refine Ext.alloc ?_ _ | assumption | refine Ext.over ?_ _ | refine Ext.drew ?_ | refine Ext.drewN ?_ _))) rfl hx).over.mono ?_; rintro e w' ⟨rfl, xw, rfl⟩))
    all_goals
      go_ret
      refine ⟨?_, by repeat (first | exact Ext.refl _ | refine Ext.alloc ?_ _ | assumption | refine Ext.over ?_ _ | refine Ext.drew ?_ | refine Ext.drewN ?_ _)⟩
      rw [HB.out]
      first
        | (rw [show min a b = a by omega, show max a b = b by omega]; rfl)
        | (rw [show min a b = b by omega, show max a b = a by omega]; rfl)
        | (rw [show min a b = a by omega, show max a b = a by omega]; rfl)
        | (rw [show min a b = b by omega, show max a b = b by omega]; rfl)
set_option maxHeartbeats 1600000 in
theorem sHasDoor_any (h : Int) (A : Option Addr) (n c : Nat) (l : List T2) (a b : Int) (w : World) (hl : Row w A (l.flatMap T2.v)) (hn : l.length = n) (hx : n ≤ 1048577) :
    Gives Try.prog 30 #[.agg #[.int .i64 h, .slice A n c], .int .i64 a, .int .i64 b] w (.bool (hasDoor h l a b)) := by
  subst hn
  cases hk : houseOk h l
  · have HB := hid (show hasDoor h l a b = false by unfold hasDoor; rw [hk]; rfl)
    (unfold Gives; go_enter Try.func30, Try.ntmps30)
    go_wp2_with (go_at_call 64; refine (gives_b hk (sHouseOk_any _ _ _ _ l _ (hl.ext (by repeat (first | exact Ext.refl _ | refine Ext.alloc ?_ _ | assumption | refine Ext.over ?_ _ | refine Ext.drew ?_ | refine Ext.drewN ?_ _))) rfl hx)).over.mono ?_; rintro e w' ⟨rfl, xw, rfl⟩)
    go_ret
    exact ⟨by rw [HB.out]; rfl, by repeat (first | exact Ext.refl _ | refine Ext.alloc ?_ _ | assumption | refine Ext.over ?_ _ | refine Ext.drew ?_ | refine Ext.drewN ?_ _)⟩
  obtain ⟨hd, -, -, -⟩ := houseOk_bounds hk
  by_cases hab : a = b
  · subst hab
    have HB := hid (show hasDoor h l a a = false by unfold hasDoor; rw [hasD_self hd]; simp)
    clear hd
    (unfold Gives; go_enter Try.func30, Try.ntmps30)
    go_wp2_with (go_at_call 64; refine (gives_b hk (sHouseOk_any _ _ _ _ l _ (hl.ext (by repeat (first | exact Ext.refl _ | refine Ext.alloc ?_ _ | assumption | refine Ext.over ?_ _ | refine Ext.drew ?_ | refine Ext.drewN ?_ _))) rfl hx)).over.mono ?_; rintro e w' ⟨rfl, xw, rfl⟩)
    go_ret
    exact ⟨by rw [HB.out]; rfl, by repeat (first | exact Ext.refl _ | refine Ext.alloc ?_ _ | assumption | refine Ext.over ?_ _ | refine Ext.drew ?_ | refine Ext.drewN ?_ _)⟩
  · have HB := hid (show hasDoor h l a b = (a != b && hasD l a b) by unfold hasDoor; rw [hk, bne_iff_ne.2 hab])
    clear hd
    (unfold Gives; go_enter Try.func30, Try.ntmps30)
    go_wp2_with (first | (go_at_call 64; refine (gives_b hk (sHouseOk_any _ _ _ _ l _ (hl.ext (by repeat (first | exact Ext.refl _ | refine Ext.alloc ?_ _ | assumption | refine Ext.over ?_ _ | refine Ext.drew ?_ | refine Ext.drewN ?_ _))) rfl hx)).over.mono ?_; rintro e w' ⟨rfl, xw, rfl⟩) | (go_at_call 55; refine (l23Door_any _ _ _ _ l _ _ _ (hl.ext (by repeat (first | exact Ext.refl _ | refine Ext.alloc ?_ _ | assumption | refine Ext.over ?_ _ | refine Ext.drew ?_ | refine Ext.drewN ?_ _))) rfl hx).over.mono ?_; rintro e w' ⟨rfl, xw, rfl⟩))
    go_ret
    exact ⟨by rw [HB.out]; rfl, by repeat (first | exact Ext.refl _ | refine Ext.alloc ?_ _ | assumption | refine Ext.over ?_ _ | refine Ext.drew ?_ | refine Ext.drewN ?_ _)⟩
end Go.Proofs.Ytngniniiohgilaa
/- Plain law: what the law of the dispatch asks. -/
namespace Go.Proofs.Ytngniniiohgilaa
open Go.RowKit
set_option linter.unusedVariables false

theorem Beg.room {G : Nat} {b : List Nat} (hb : Beg G b) : b.length ≤ G := by
  have := List.Nodup.length_le_of_subset (l₂ := List.range G) hb.1 (fun x hx => List.mem_range.2 (hb.2 x hx))
  simpa using this
/-- No list that begins so costs less. -/
theorem disp_le {D : Nat → Nat → Int} {G : Nat} : ∀ (r : Nat) (b t : List Nat), Beg G (b ++ t) → t.length = r → (disp D G r b).2 ≤ dsum D (b ++ t) (b ++ t).length
  | 0, b, t, hb, ht => by
    obtain rfl : t = [] := List.eq_nil_of_length_eq_zero ht
    rw [List.append_nil]
    exact Int.le_refl _
  | r + 1, b, t, hb, ht => by
    match t, ht with
    | x :: t, ht =>
      have hx : x < G := hb.2 x (by simp)
      have hc : b.contains x = false := by
        rcases hc : b.contains x with _ | _
        · rfl
        · exact absurd rfl ((List.nodup_append.1 hb.1).2.2 x (List.contains_iff_mem.1 hc) x (by simp))
      have ih := disp_le (D := D) r (b ++ [x]) t (by simpa using hb) (by simpa using ht)
      rw [List.append_assoc, List.singleton_append] at ih
      rw [disp_succ]
      rcases accTo_spec (dispF D G r b) G with ⟨_, h2⟩ | ⟨j, y, hj, hy, ha, h1, _⟩
      · exfalso
        have := h2 x hx
        unfold dispF at this
        rw [hc] at this
        simp at this
      · rw [ha]
        have := h1 x _ hx (show dispF D G r b x = some (disp D G r (b ++ [x])) by unfold dispF; rw [hc]; simp)
        show y.2 ≤ _
        omega
theorem disp_ord {D : Nat → Nat → Int} {G : Nat} : ∀ (r : Nat) (b : List Nat), Beg G b → r + b.length ≤ G → Beg G (disp D G r b).1 ∧ (disp D G r b).1.length = r + b.length ∧ (disp D G r b).2 = dsum D (disp D G r b).1 (r + b.length)
  | 0, b, hb, hl => ⟨hb, by show b.length = _; omega, by show dsum D b b.length = dsum D b (0 + b.length); rw [Nat.zero_add]⟩
  | r + 1, b, hb, hl => by
    rw [disp_succ]
    rcases accTo_spec (dispF D G r b) G with ⟨_, h2⟩ | ⟨j, x, hj, hx, ha, h1, h2⟩
    · exfalso
      obtain ⟨k, hk, hc⟩ := hb.free (by omega)
      have := h2 k hk
      unfold dispF at this
      rw [hc] at this
      simp at this
    · rw [ha]
      unfold dispF at hx
      split at hx
      · cases hx
      · rename_i hc
        cases hx
        have := disp_ord (D := D) r _ (hb.snoc hj (by simpa using hc)) (by simp; omega)
        rw [show r + (b ++ [j]).length = r + 1 + b.length by simp; omega] at this
        exact this
/-- The guards of a list of numbers. -/
def pickL (gs : List Int) (b : List Nat) : List Int := b.map fun k => atI gs k
theorem pickL_len (gs : List Int) (b : List Nat) : (pickL gs b).length = b.length := by simp [pickL]
theorem pickL_at {gs : List Int} {b : List Nat} {k : Nat} (hk : k < b.length) : atI (pickL gs b) k = atI gs (natAt b k) := by
  rw [atI_eq _ _ (by rw [pickL_len]; exact hk), natAt_eq _ _ hk]; simp [pickL]
theorem pickL_app (gs : List Int) (b : List Nat) (k : Nat) : pickL gs (b ++ [k]) = pickL gs b ++ [atI gs k] := by simp [pickL]
theorem hall_in {h : Nat} {l : List T2} {a : Int} (g : houseOk h l = true) (h0 : 0 ≤ a) (h1 : a < h) : hasHall h l a = true := hasHall_iff.2 ⟨g, h0, by omega⟩
theorem natAt_lt {G : Nat} {b : List Nat} (hb : Beg G b) {k : Nat} (hk : k < b.length) : natAt b k < G := by rw [natAt_eq _ _ hk]; exact hb.2 _ (List.getElem_mem hk)
theorem way_dsum {h : Nat} {l : List T2} {gs hs : List Int} {b : List Nat} (g : houseOk h l = true) (hg : InH h gs) (hh : InH h hs) (hb : Beg gs.length b) (hl : b.length = hs.length) : wayCost h l (pickL gs b) hs = dsum (dd h l gs hs) b b.length := by
  have key : ∀ k, k < b.length → wc h l (pickL gs b) hs k = dd h l gs hs (natAt b k) k := by
    intro k hk
    have hn := natAt_lt hb hk
    have h1 := hg _ hn
    have h2 := hh k (by omega)
    unfold wc
    rw [pickL_at hk, hallDist_ab (hall_in g h1.1 h1.2) (hall_in g h2.1 h2.2), Int.toNat_natCast, dd_in hn (by omega)]
  have hD := dd_bound g hg hh
  rw [wayCost_ok (by rw [pickL_len]; exact hl) (fun k hk => by rw [pickL_len] at hk; rw [key k hk]; exact (hD _ _).1), pickL_len]
  have : ∀ k, k ≤ b.length → sumTo (wc h l (pickL gs b) hs) k = dsum (dd h l gs hs) b k := by
    intro k
    induction k with
    | zero => intro _; rfl
    | succ k ih => intro hk; show sumTo _ k + _ = dsum _ b k + _; rw [ih (by omega), key k (by omega)]
  exact this _ (Nat.le_refl _)
/-- The numbers of the others: five guards, from number a on. -/
def turnL (a r : Nat) : List Nat := (List.range r).map fun k => (k + a) % 5
theorem turnL_len (a r : Nat) : (turnL a r).length = r := by simp [turnL]
theorem turnL_succ (a r : Nat) : turnL a (r + 1) = turnL a r ++ [(r + a) % 5] := by simp [turnL, List.range_succ]
theorem turnL_beg {a r : Nat} (hr : r ≤ 5) : Beg 5 (turnL a r) := by
  constructor
  · unfold turnL
    rw [List.nodup_iff_pairwise_ne, List.pairwise_map]
    refine List.Pairwise.imp_of_mem ?_ (List.nodup_range (n := r))
    intro x y hx hy hne e
    rw [List.mem_range] at hx hy
    omega
  · intro x hx
    unfold turnL at hx
    rw [List.mem_map] at hx
    obtain ⟨k, _, rfl⟩ := hx
    omega
theorem canD_ok {h : Nat} {l : List T2} {gs hs : List Int} (g : houseOk h l = true) (hg : InH h gs) (hh : InH h hs) (h5 : gs.length = 5) (h4 : hs.length ≤ 4) : canD h l gs hs = true :=
  canD_iff.2 ⟨by omega, by omega, halls_iff.2 ⟨g, fun k hk => by have := hg k hk; omega⟩, halls_iff.2 ⟨g, fun k hk => by have := hh k hk; omega⟩⟩
theorem bestDisp_spec {h : Nat} {l : List T2} {gs hs : List Int} (g : houseOk h l = true) (hg : InH h gs) (hh : InH h hs) (h5 : gs.length = 5) (h4 : hs.length ≤ 4) :
    Beg gs.length (bestDisp h l gs hs) ∧ (bestDisp h l gs hs).length = hs.length ∧ wayCost h l (pickL gs (bestDisp h l gs hs)) hs = dispCost h l gs hs ∧ 0 ≤ dispCost h l gs hs ∧ dispCost h l gs hs ≤ 35 ∧
    ∀ b, Beg gs.length b → b.length = hs.length → dispCost h l gs hs ≤ wayCost h l (pickL gs b) hs := by
  have hD := dd_bound g hg hh
  by_cases h0 : hs.length = 0
  · have e1 : bestDisp h l gs hs = [] := if_pos h0
    have e2 := dispCost_none (h := h) (l := l) (gs := gs) h0
    have hB : Beg gs.length ([] : List Nat) := ⟨List.nodup_nil, by simp⟩
    rw [e1, e2]
    refine ⟨hB, h0.symm, way_dsum g hg hh hB h0.symm, by omega, by omega, fun b hb hl => ?_⟩
    rw [way_dsum g hg hh hb hl]
    exact (dsum_bound hD _).1
  · have e1 : bestDisp h l gs hs = (disp (dd h l gs hs) gs.length hs.length []).1 := if_neg h0
    have e2 := dispCost_yes h0 (canD_ok g hg hh h5 h4)
    rw [Int.toNat_natCast] at e2
    obtain ⟨o1, o2, o3⟩ := disp_ord (D := dd h l gs hs) (G := gs.length) hs.length [] ⟨List.nodup_nil, by simp⟩ (by simp; omega)
    simp only [List.length_nil, Nat.add_zero] at o2 o3
    have hb := dsum_bound (b := (disp (dd h l gs hs) gs.length hs.length []).1) hD hs.length
    rw [e1, e2]
    refine ⟨o1, o2, by rw [way_dsum g hg hh o1 o2, o2, o3], by omega, by omega, fun b hb hl => ?_⟩
    rw [way_dsum g hg hh hb hl]
    have := disp_le (D := dd h l gs hs) hs.length [] b (by simpa using hb) hl
    simpa using this
/-- The nearest is nearest. -/
theorem nearTo_le (d : Nat → Int) : ∀ k, (0 < k → 0 ≤ nearTo d k ∧ nearTo d k < k) ∧ ∀ j, j < k → d (nearTo d k).toNat ≤ d j
  | 0 => ⟨by omega, by omega⟩
  | k + 1 => by
    obtain ⟨i1, i2⟩ := nearTo_le d k
    unfold nearTo
    split
    · rename_i hneg
      rcases nearTo_cases d k with ⟨_, hk⟩ | ⟨b, hb, _⟩
      · subst hk
        exact ⟨fun _ => ⟨by omega, by omega⟩, fun j hj => by
          have hj0 : j = 0 := by omega
          subst hj0
          exact Int.le_refl _⟩
      · omega
    · rename_i hneg
      split
      · rename_i hlt
        refine ⟨fun _ => ⟨by omega, by omega⟩, fun j hj => ?_⟩
        rw [Int.toNat_natCast]
        rcases Nat.lt_or_ge j k with h5 | h5
        · have := i2 j h5; omega
        · obtain rfl : j = k := by omega
          omega
      · rename_i hlt
        have hk0 : 0 < k := by
          rcases nearTo_cases d k with ⟨h1, _⟩ | ⟨b, hb, hbk⟩ <;> omega
        have := i1 hk0
        refine ⟨fun _ => ⟨by omega, by omega⟩, fun j hj => ?_⟩
        rcases Nat.lt_or_ge j k with h5 | h5
        · exact i2 j h5
        · obtain rfl : j = k := by omega
          omega
/-- A step towards a hall leads to a hall next door, and nearer by one. -/
theorem step_spec {h a b : Nat} {l : List T2} (g : houseOk h l = true) (ha : a < h) (hb : b < h) :
    hallDist h l a b = 0 ∧ stepTo h l a b = b ∨ 0 < hallDist h l a b ∧ ∃ s : Nat, s < h ∧ stepTo h l a b = s ∧ hallDist h l s b = hallDist h l a b - 1 ∧ hasDoor h l s a = true := by
  have hin : ∀ x : Nat, x < h → hasHall h l x = true := fun x hx => hall_in g (by omega) (by omega)
  have hd : ∀ x y : Nat, x < h → y < h → hallDist h l x y = dist h (adjD l) x y := fun x y hx hy => by rw [hallDist_ab (hin x hx) (hin y hy), Int.toNat_natCast, Int.toNat_natCast, Int.toNat_natCast]
  have h0 := reach_all g ha hb
  rcases Int.lt_or_le 0 (dist h (adjD l) a b) with hp | hp
  · refine .inr ⟨by rw [hd a b ha hb]; exact hp, ?_⟩
    rw [stepTo_pos (by rw [hd a b ha hb]; exact hp)]
    obtain ⟨k, hk, hka, hkd⟩ := near_step (adj := adjD l) (adjD_symm l) ha hb hp
    have hex : ∃ m, m < h ∧ (adjD l m a && nearer h l a b m) = true := ⟨k, hk, by rw [hka, Bool.true_and]; unfold nearer; rw [decide_eq_true_eq]; omega⟩
    obtain ⟨s, ⟨hs, hsp⟩, hmin⟩ := exists_least hex
    refine ⟨s, hs, firstN_hit (fun j hj => ?_) hs hsp, ?_, ?_⟩
    · rcases hc : (adjD l j a && nearer h l a b j) with _ | _
      · rfl
      · have := hmin j ⟨by omega, hc⟩; omega
    · rw [Bool.and_eq_true] at hsp
      have hn := hsp.2
      unfold nearer at hn
      rw [decide_eq_true_eq] at hn
      rw [hd s b hs hb, hd a b ha hb]
      have hsa : s ≠ a := by rintro rfl; omega
      have h1 : dist h (adjD l) a s = 1 := (dist_one ha).2 ⟨hs, hsa, hsp.1⟩
      have h2 := reach_all g hs hb
      have h3 := dist_tri ha hs (by omega) h2
      omega
    · rw [Bool.and_eq_true] at hsp
      unfold hasDoor
      rw [g, Bool.true_and]
      exact hsp.1
  · refine .inl ⟨by rw [hd a b ha hb]; omega, ?_⟩
    have e0 : hallDist h l a b = 0 := by rw [hd a b ha hb]; omega
    rw [stepTo_zero e0, dist_zero (n := h) (adj := adjD l) (a := a) ha (v := b) (by omega)]
theorem near_spec {h to : Nat} {l : List T2} {gs : List Int} (g : houseOk h l = true) (hg : InH h gs) (h5 : gs.length = 5) (ht : to < h) :
    ∃ k : Nat, nearestTo h l gs to = k ∧ k < 5 ∧ ∀ j, j < 5 → hallDist h l (atI gs k) to ≤ hallDist h l (atI gs j) to := by
  have e : halls h l gs = true := halls_iff.2 ⟨g, fun k hk => by have := hg k hk; omega⟩
  rw [near_ok e (btw_iff.2 ⟨by omega, by omega⟩)]
  obtain ⟨h1, h2⟩ := nearTo_le (gd h l gs to) gs.length
  obtain ⟨n0, n1⟩ := h1 (by omega)
  refine ⟨(nearTo (gd h l gs to) gs.length).toNat, by omega, by omega, fun j hj => ?_⟩
  have hk := hg (nearTo (gd h l gs to) gs.length).toNat (by omega)
  have hj' := hg j (by omega)
  rw [hallDist_ab (hall_in g hk.1 hk.2) (hall_in g (by omega) (by omega)), hallDist_ab (hall_in g hj'.1 hj'.2) (hall_in g (by omega) (by omega)), Int.toNat_natCast, Int.toNat_natCast]
  exact h2 j (by omega)
end Go.Proofs.Ytngniniiohgilaa
/- Walks of the helpers of the laws that draw. Conditions: sizes. -/
namespace Go.Proofs.Ytngniniiohgilaa
open Go.RowKit
set_option linter.unusedVariables false

theorem big_any (A : Option Addr) (n c : Nat) (w : World) : Gives Try.prog 7 #[.slice A n c] w (.bool (decide ((1048576 : Int) < n))) := by
  (unfold Gives; go_enter Try.func7, Try.ntmps7)
  go_wp2_with fail
  go_ret
  exact ⟨rfl, by repeat (first | exact Ext.refl _ | refine Ext.alloc ?_ _ | assumption | refine Ext.over ?_ _ | refine Ext.drew ?_ | refine Ext.drewN ?_ _)⟩
/-- A number out of the bytes. -/
def atV (bs : List Int) (i : Nat) : Int := if bs.length = 0 then 0 else bs.getD ((i * 5 + 1) % bs.length) 0
theorem atV_bound {bs : List Int} (hz : ∀ z ∈ bs, 0 ≤ z ∧ z ≤ 255) (i : Nat) : 0 ≤ atV bs i ∧ atV bs i ≤ 255 := by
  unfold atV
  split
  · omega
  · rename_i h
    have hlt : (i * 5 + 1) % bs.length < bs.length := Nat.mod_lt _ (by omega)
    rw [List.getD_eq_getElem?_getD, List.getElem?_eq_getElem hlt]
    exact hz _ (List.getElem_mem hlt)
theorem at_any (A : Option Addr) (n c : Nat) (bs : List Int) (i : Nat) (w : World) (hl : Row w A (bs.map (Value.int .u8))) (hn : bs.length = n) (hx : n ≤ 1048576) (hi : i ≤ 100) (hz : ∀ z ∈ bs, 0 ≤ z ∧ z ≤ 255) :
    Gives Try.prog 9 #[.slice A n c, .int .i64 i] w (.int .i64 (atV bs i)) := by
  subst hn
  have HZ := hid hz
  clear hz
  by_cases h0 : bs.length = 0
  · have HV := hid (show atV bs i = 0 by unfold atV; rw [if_pos h0])
    (unfold Gives; go_enter Try.func9, Try.ntmps9)
    go_wp2_with fail
    go_ret
    exact ⟨by rw [HV.out]; rfl, by repeat (first | exact Ext.refl _ | refine Ext.alloc ?_ _ | assumption | refine Ext.over ?_ _ | refine Ext.drew ?_ | refine Ext.drewN ?_ _)⟩
  · have hne : ((bs.length : Int) == 0) = false := by rw [beq_eq_false_iff_ne]; omega
    have hlt : (i * 5 + 1) % bs.length < bs.length := Nat.mod_lt _ (by omega)
    obtain ⟨j, hj⟩ : ∃ j, j = (i * 5 + 1) % bs.length := ⟨_, rfl⟩
    rw [← hj] at hlt
    have hmod : ((i : Int) * 5 + 1) % (bs.length : Int) = (j : Int) := by rw [hj, Int.natCast_emod]; rfl
    have HV := hid (show atV bs i = bs[j] by unfold atV; rw [if_neg h0, ← hj, List.getD_eq_getElem?_getD, List.getElem?_eq_getElem hlt]; rfl)
    obtain ⟨b, off, rfl, hc⟩ := hl.at_ (j := j) (by simpa using hlt)
    have hbyte := hc j _ (by rw [List.getElem?_map, List.getElem?_eq_getElem hlt]; rfl)
    have hbz := HZ.out _ (List.getElem_mem hlt)
    generalize bs[j] = y at hbyte hbz HV
    clear hc hj
    (unfold Gives; go_enter Try.func9, Try.ntmps9)
    go_wp2_with fail
    go_ret
    exact ⟨by rw [HV.out]; rfl, by repeat (first | exact Ext.refl _ | refine Ext.alloc ?_ _ | assumption | refine Ext.over ?_ _ | refine Ext.drew ?_ | refine Ext.drewN ?_ _)⟩
end Go.Proofs.Ytngniniiohgilaa
/- Walks of the helpers of the laws: whether a number stands in a list. Conditions: sizes. -/
namespace Go.Proofs.Ytngniniiohgilaa
open Go.RowKit
set_option linter.unusedVariables false

set_option maxHeartbeats 1600000 in
theorem has_any (A : Option Addr) (n c : Nat) (l : List Int) (v : Int) (w : World) (hl : Row w A (l.map (Value.int .i64))) (hn : l.length = n) (hx : n ≤ 1048577) :
    Gives Try.prog 13 #[.slice A n c, .int .i64 v] w (.bool (memI l v)) := by
  subst hn
  (unfold Gives; go_enter Try.func13, Try.ntmps13)
  go_wp2_with fail
  go_loopw [5] (fun i wr => ∃ (k : Nat), (∀ j, j < k → (atI l j == v) = false) ∧ k ≤ l.length ∧ i = .int .i64 ↑k ∧ Ext w wr) (fun i _ => (l.length - (intOf i).toNat))
  case atStart => exact ⟨0, by omega, by omega, rfl, Ext.refl _⟩
  case round =>
    obtain ⟨k, hk, hkn, rfl, he⟩ := hrel
    have HK := hid hk
    have HE := hid he
    have hL := hl.ext he
    clear hk
    by_cases hlt : k < l.length
    · obtain ⟨b, off, rfl, hc⟩ := hL.ints hlt
      have c1 := hc k hlt
      clear hc he hl hL
      cases hv : (atI l k == v)
      · go_wp2_with fail
        go_roundw
        case rel => exact ⟨k + 1, lt_succ_all HK.out hv, by omega, by go_num, HE.out.trans (by repeat (first | exact Ext.refl _ | refine Ext.alloc ?_ _ | assumption | refine Ext.over ?_ _ | refine Ext.drew ?_ | refine Ext.drewN ?_ _))⟩
        case measure => simp [intOf]; omega
      · have HB := hid (memI_yes hlt hv)
        go_wp2_with fail
        go_ret
        exact ⟨by rw [HB.out]; rfl, HE.out.trans (by repeat (first | exact Ext.refl _ | refine Ext.alloc ?_ _ | assumption | refine Ext.over ?_ _ | refine Ext.drew ?_ | refine Ext.drewN ?_ _))⟩
    · have HB := hid (memI_cons_no.2 (fun j hj => HK.out j (by omega)))
      go_wp2_with fail
      go_ret
      exact ⟨by rw [HB.out]; rfl, HE.out⟩
end Go.Proofs.Ytngniniiohgilaa
