/- Walks: lists of halls, of the reference. Conditions: sizes. -/
import Derived.Test.YtnkdafdafgjicaaHallsI
namespace Go.Proofs.Ytnkdafdafgjicaa
open Go.RowKit
set_option linter.unusedVariables false

set_option maxRecDepth 100000 in
set_option maxHeartbeats 1600000 in
theorem shallsOk_no (h : Int) (A : Option Addr) (n c : Nat) (l : List T2) (B : Option Addr) (m d : Nat) (g : List Int) (w : World) (hl : Row w A (l.flatMap T2.v)) (hn : l.length = n) (hx : n ≤ 1048577) (hg : Row w B (g.map (Value.int .i64))) (hm : g.length = m) (hy : m ≤ 1048577) (hk : houseOk h l = false) :
    Gives Try.prog 30 #[.agg #[.int .i64 h, .slice A n c], .slice B m d] w (.bool (halls h l g)) := by
  subst hn hm
  have HK := hid hk
  skip
  (unfold Gives; go_enter Try.func30, Try.ntmps30)
  go_wp2_with fail
  go_loopw [5] (fun i wr => ∃ (k : Nat), (∀ j, j < k → True) ∧ k ≤ g.length ∧ i = .int .i64 ↑k ∧ Ext w wr ∧ wr.cell? ⟨w.heap.size, 0, none⟩ = some (.int .i64 h) ∧ wr.cell? ⟨w.heap.size, 1, none⟩ = some (.slice A l.length c)) (fun i _ => (g.length - (intOf i).toNat))
  case atStart => exact ⟨0, by omega, by omega, rfl, by repeat (first | exact Ext.refl _ | refine Ext.alloc ?_ _ | assumption | refine Ext.over ?_ _ | refine Ext.drew ?_ | refine Ext.drewN ?_ _), by go_simp, by go_simp⟩
  case round =>
    obtain ⟨k, hk', hkn, rfl, he, b0, b1⟩ := hrel
    have HJ := hid hk'
    have HE := hid he
    have HL := hid (hl.ext he)
    have hO := hg.ext he
    clear hk' hk
    by_cases hlt : k < g.length
    · obtain ⟨ob, off, rfl, hc⟩ := hO.ints hlt
      have c1 := hc k hlt
      clear hc he hg hl hO
      cases g1 : btw (atI g k) 0 (wrap64 (h - 1))
      · have HB := hid (show halls h l g = false by first | exact halls_no HK.out | exact halls_out hlt g1)
        go_wp2_with fail
        (refine wp_region_calm (by kernel_rfl) (by kernel_rfl) ?_; (repeat (go_big_quiet_step ((go_at_call 60; exact (gives_b g1 (l01In_any _ _ _ _)).calm)))); refine wpQuiet_nil ?_; rintro w1 ⟨x1, rfl⟩)
        go_wp2_with fail
        go_ret
        exact ⟨by rw [HB.out]; rfl, HE.out.trans (by repeat (first | exact Ext.refl _ | refine Ext.alloc ?_ _ | assumption | refine Ext.over ?_ _ | refine Ext.drew ?_ | refine Ext.drewN ?_ _))⟩
      · have HB := hid (fun (j : Nat) (hj : j = k) => hj ▸ (show (fun j => True) k from trivial))
        go_wp2_with fail
        (refine wp_region_calm (by kernel_rfl) (by kernel_rfl) ?_; (repeat (go_big_quiet_step ((go_at_call 60; exact (gives_b g1 (l01In_any _ _ _ _)).calm)))); refine wpQuiet_nil ?_; rintro w1 ⟨x1, rfl⟩)
        go_wp2_with fail
        go_roundw
        case rel => exact ⟨k + 1, lt_succ_all HJ.out (HB.out k rfl), by omega, by go_num, HE.out.trans (by repeat (first | exact Ext.refl _ | refine Ext.alloc ?_ _ | assumption | refine Ext.over ?_ _ | refine Ext.drew ?_ | refine Ext.drewN ?_ _)), by go_simp, by go_simp⟩
        case measure => simp [intOf]; omega
    · have HB := hid (show halls h l g = false by first | exact halls_no HK.out | (unfold halls; rw [HK.out, allN_true (fun j hj => HJ.out j (by omega))]; rfl))
      go_wp2_with (go_at_call 38; refine (gives_b HK.out (sHouseOk_any _ _ _ _ l _ (HL.out.ext (by repeat (first | exact Ext.refl _ | refine Ext.alloc ?_ _ | assumption | refine Ext.over ?_ _ | refine Ext.drew ?_ | refine Ext.drewN ?_ _))) rfl hx)).over.mono ?_; rintro e w' ⟨rfl, xw, rfl⟩)
      go_ret
      exact ⟨by rw [HB.out]; rfl, HE.out.trans (by repeat (first | exact Ext.refl _ | refine Ext.alloc ?_ _ | assumption | refine Ext.over ?_ _ | refine Ext.drew ?_ | refine Ext.drewN ?_ _))⟩
set_option maxRecDepth 100000 in
set_option maxHeartbeats 1600000 in
theorem shallsOk_yes (h : Int) (A : Option Addr) (n c : Nat) (l : List T2) (B : Option Addr) (m d : Nat) (g : List Int) (w : World) (hl : Row w A (l.flatMap T2.v)) (hn : l.length = n) (hx : n ≤ 1048577) (hg : Row w B (g.map (Value.int .i64))) (hm : g.length = m) (hy : m ≤ 1048577) (hk : houseOk h l = true) :
    Gives Try.prog 30 #[.agg #[.int .i64 h, .slice A n c], .slice B m d] w (.bool (halls h l g)) := by
  subst hn hm
  have HK := hid hk
  obtain ⟨_, h1, h7, _⟩ := houseOk_bounds hk
  (unfold Gives; go_enter Try.func30, Try.ntmps30)
  go_wp2_with fail
  go_loopw [5] (fun i wr => ∃ (k : Nat), (∀ j, j < k → inH h g j = true) ∧ k ≤ g.length ∧ i = .int .i64 ↑k ∧ Ext w wr ∧ wr.cell? ⟨w.heap.size, 0, none⟩ = some (.int .i64 h) ∧ wr.cell? ⟨w.heap.size, 1, none⟩ = some (.slice A l.length c)) (fun i _ => (g.length - (intOf i).toNat))
  case atStart => exact ⟨0, by omega, by omega, rfl, by repeat (first | exact Ext.refl _ | refine Ext.alloc ?_ _ | assumption | refine Ext.over ?_ _ | refine Ext.drew ?_ | refine Ext.drewN ?_ _), by go_simp, by go_simp⟩
  case round =>
    obtain ⟨k, hk', hkn, rfl, he, b0, b1⟩ := hrel
    have HJ := hid hk'
    have HE := hid he
    have HL := hid (hl.ext he)
    have hO := hg.ext he
    clear hk' hk
    by_cases hlt : k < g.length
    · obtain ⟨ob, off, rfl, hc⟩ := hO.ints hlt
      have c1 := hc k hlt
      clear hc he hg hl hO
      cases g1 : btw (atI g k) 0 (h - 1)
      · have HB := hid (show halls h l g = false by first | exact halls_no HK.out | exact halls_out hlt g1)
        go_wp2_with fail
        (refine wp_region_calm (by kernel_rfl) (by kernel_rfl) ?_; (repeat (go_big_quiet_step ((go_at_call 60; exact (gives_b g1 (l01In_any _ _ _ _)).calm)))); refine wpQuiet_nil ?_; rintro w1 ⟨x1, rfl⟩)
        go_wp2_with fail
        go_ret
        exact ⟨by rw [HB.out]; rfl, HE.out.trans (by repeat (first | exact Ext.refl _ | refine Ext.alloc ?_ _ | assumption | refine Ext.over ?_ _ | refine Ext.drew ?_ | refine Ext.drewN ?_ _))⟩
      · have HB := hid (fun (j : Nat) (hj : j = k) => hj ▸ (show (fun j => inH h g j = true) k from g1))
        go_wp2_with fail
        (refine wp_region_calm (by kernel_rfl) (by kernel_rfl) ?_; (repeat (go_big_quiet_step ((go_at_call 60; exact (gives_b g1 (l01In_any _ _ _ _)).calm)))); refine wpQuiet_nil ?_; rintro w1 ⟨x1, rfl⟩)
        go_wp2_with fail
        go_roundw
        case rel => exact ⟨k + 1, lt_succ_all HJ.out (HB.out k rfl), by omega, by go_num, HE.out.trans (by repeat (first | exact Ext.refl _ | refine Ext.alloc ?_ _ | assumption | refine Ext.over ?_ _ | refine Ext.drew ?_ | refine Ext.drewN ?_ _)), by go_simp, by go_simp⟩
        case measure => simp [intOf]; omega
    · have HB := hid (show halls h l g = true by first | exact halls_no HK.out | (unfold halls; rw [HK.out, allN_true (fun j hj => HJ.out j (by omega))]; rfl))
      go_wp2_with (go_at_call 38; refine (gives_b HK.out (sHouseOk_any _ _ _ _ l _ (HL.out.ext (by repeat (first | exact Ext.refl _ | refine Ext.alloc ?_ _ | assumption | refine Ext.over ?_ _ | refine Ext.drew ?_ | refine Ext.drewN ?_ _))) rfl hx)).over.mono ?_; rintro e w' ⟨rfl, xw, rfl⟩)
      go_ret
      exact ⟨by rw [HB.out]; rfl, HE.out.trans (by repeat (first | exact Ext.refl _ | refine Ext.alloc ?_ _ | assumption | refine Ext.over ?_ _ | refine Ext.drew ?_ | refine Ext.drewN ?_ _))⟩
theorem shalls_any (h : Int) (A : Option Addr) (n c : Nat) (l : List T2) (B : Option Addr) (m d : Nat) (g : List Int) (w : World) (hl : Row w A (l.flatMap T2.v)) (hn : l.length = n) (hx : n ≤ 1048577) (hg : Row w B (g.map (Value.int .i64))) (hm : g.length = m) (hy : m ≤ 1048577) :
    Gives Try.prog 30 #[.agg #[.int .i64 h, .slice A n c], .slice B m d] w (.bool (halls h l g)) := by
  cases hk : houseOk h l
  · exact shallsOk_no h A n c l B m d g w hl hn hx hg hm hy hk
  · exact shallsOk_yes h A n c l B m d g w hl hn hx hg hm hy hk
end Go.Proofs.Ytnkdafdafgjicaa
