/- Walks: lists of halls. Conditions: sizes. -/
import Derived.Test.YtngniniiohgilaaDistance
import Derived.Test.YtngniniiohgilaaInts
namespace Go.Proofs.Ytngniniiohgilaa
open Go.RowKit
set_option linter.unusedVariables false

theorem isHall_wrap (h : Int) (A : Option Addr) (n c : Nat) (k : Int) (w : World) :
    Gives Try.prog 42 #[.agg #[.int .i64 h, .slice A n c], .int .i64 k] w (.bool (btw k 0 (wrap64 (h - 1)))) := by
  (unfold Gives; go_enter Try.func42, Try.ntmps42)
  go_wp2_with (go_at_call 51; refine (between_any _ _ _ _).over.mono ?_; rintro e w' ⟨rfl, xw, rfl⟩)
  go_ret
  exact ⟨rfl, by repeat (first | exact Ext.refl _ | refine Ext.alloc ?_ _ | assumption | refine Ext.over ?_ _ | refine Ext.drew ?_ | refine Ext.drewN ?_ _)⟩
def inH (h : Int) (g : List Int) (k : Nat) : Bool := btw (atI g k) 0 (h - 1)
def halls (h : Int) (l : List T2) (g : List Int) : Bool := houseOk h l && allN g.length (inH h g)
theorem halls_iff {h : Int} {l : List T2} {g : List Int} : halls h l g = true ↔ houseOk h l = true ∧ ∀ k, k < g.length → 0 ≤ atI g k ∧ atI g k ≤ h - 1 := by
  unfold halls inH
  rw [Bool.and_eq_true, allN_iff]
  simp only [btw_iff]
theorem halls_no {h : Int} {l : List T2} {g : List Int} (e : houseOk h l = false) : halls h l g = false := by unfold halls; rw [e]; rfl
theorem halls_out {h : Int} {l : List T2} {g : List Int} {k : Nat} (hk : k < g.length) (e : inH h g k = false) : halls h l g = false := by unfold halls; rw [allN_false hk e]; simp
set_option maxRecDepth 100000 in
set_option maxHeartbeats 1600000 in
theorem ihallsOk_no (h : Int) (A : Option Addr) (n c : Nat) (l : List T2) (B : Option Addr) (m d : Nat) (g : List Int) (w : World) (hl : Row w A (l.flatMap T2.v)) (hn : l.length = n) (hx : n ≤ 1048577) (hg : Row w B (g.map (Value.int .i64))) (hm : g.length = m) (hy : m ≤ 1048577) (hk : houseOk h l = false) :
    Gives Try.prog 61 #[.agg #[.int .i64 h, .slice A n c], .slice B m d] w (.bool (halls h l g)) := by
  subst hn hm
  have HK := hid hk
  skip
  (unfold Gives; go_enter Try.func61, Try.ntmps61)
  go_wp2_with fail
  go_loopw [9] (fun i wr => ∃ (k : Nat), (∀ j, j < k → True) ∧ k ≤ g.length ∧ i = .int .i64 ↑k ∧ Ext w wr ∧ wr.cell? ⟨w.heap.size, 0, none⟩ = some (.int .i64 h) ∧ wr.cell? ⟨w.heap.size, 1, none⟩ = some (.slice A l.length c)) (fun i _ => (g.length - (intOf i).toNat))
  case atStart => exact ⟨0, by omega, by omega, rfl, by repeat (first | exact Ext.refl _ | refine Ext.alloc ?_ _ | assumption | refine Ext.over ?_ _ | refine Ext.drew ?_ | refine Ext.drewN ?_ _), by go_simp, by go_simp⟩
  case round =>
    obtain ⟨k, hk', hkn, rfl, he, b0, b1⟩ := hrel
    have HJ := hid hk'
    have HE := hid he
    have HL := hid (hl.ext he)
    have hO := hg.ext he
    clear hk' hk
    by_cases hlt : k < g.length
    · obtain ⟨ob, off, rfl, hc⟩ := hO.ints hlt
      have c1 := hc k hlt
      clear hc he hg hl hO
      cases g1 : btw (atI g k) 0 (wrap64 (h - 1))
      · have HB := hid (show halls h l g = false by first | exact halls_no HK.out | exact halls_out hlt g1)
        go_wp2_with (go_at_call 42; refine (gives_b g1 (isHall_wrap _ _ _ _ _ _)).over.mono ?_; rintro e w' ⟨rfl, xw, rfl⟩)
        go_ret
        exact ⟨by rw [HB.out]; rfl, HE.out.trans (by repeat (first | exact Ext.refl _ | refine Ext.alloc ?_ _ | assumption | refine Ext.over ?_ _ | refine Ext.drew ?_ | refine Ext.drewN ?_ _))⟩
      · have HB := hid (fun (j : Nat) (hj : j = k) => hj ▸ (show (fun j => True) k from trivial))
        go_wp2_with (go_at_call 42; refine (gives_b g1 (isHall_wrap _ _ _ _ _ _)).over.mono ?_; rintro e w' ⟨rfl, xw, rfl⟩)
        go_roundw
        case rel => exact ⟨k + 1, lt_succ_all HJ.out (HB.out k rfl), by omega, by go_num, HE.out.trans (by repeat (first | exact Ext.refl _ | refine Ext.alloc ?_ _ | assumption | refine Ext.over ?_ _ | refine Ext.drew ?_ | refine Ext.drewN ?_ _)), by go_simp, by go_simp⟩
        case measure => simp [intOf]; omega
    · have HB := hid (show halls h l g = false by first | exact halls_no HK.out | (unfold halls; rw [HK.out, allN_true (fun j hj => HJ.out j (by omega))]; rfl))
      go_wp2_with (go_at_call 15; refine (gives_b HK.out (iHouseOk_any _ _ _ _ l _ (HL.out.ext (by repeat (first | exact Ext.refl _ | refine Ext.alloc ?_ _ | assumption | refine Ext.over ?_ _ | refine Ext.drew ?_ | refine Ext.drewN ?_ _))) rfl hx)).over.mono ?_; rintro e w' ⟨rfl, xw, rfl⟩)
      go_ret
      exact ⟨by rw [HB.out]; rfl, HE.out.trans (by repeat (first | exact Ext.refl _ | refine Ext.alloc ?_ _ | assumption | refine Ext.over ?_ _ | refine Ext.drew ?_ | refine Ext.drewN ?_ _))⟩
set_option maxRecDepth 100000 in
set_option maxHeartbeats 1600000 in
theorem ihallsOk_yes (h : Int) (A : Option Addr) (n c : Nat) (l : List T2) (B : Option Addr) (m d : Nat) (g : List Int) (w : World) (hl : Row w A (l.flatMap T2.v)) (hn : l.length = n) (hx : n ≤ 1048577) (hg : Row w B (g.map (Value.int .i64))) (hm : g.length = m) (hy : m ≤ 1048577) (hk : houseOk h l = true) :
    Gives Try.prog 61 #[.agg #[.int .i64 h, .slice A n c], .slice B m d] w (.bool (halls h l g)) := by
  subst hn hm
  have HK := hid hk
  obtain ⟨_, h1, h7, _⟩ := houseOk_bounds hk
  (unfold Gives; go_enter Try.func61, Try.ntmps61)
  go_wp2_with fail
  go_loopw [9] (fun i wr => ∃ (k : Nat), (∀ j, j < k → inH h g j = true) ∧ k ≤ g.length ∧ i = .int .i64 ↑k ∧ Ext w wr ∧ wr.cell? ⟨w.heap.size, 0, none⟩ = some (.int .i64 h) ∧ wr.cell? ⟨w.heap.size, 1, none⟩ = some (.slice A l.length c)) (fun i _ => (g.length - (intOf i).toNat))
  case atStart => exact ⟨0, by omega, by omega, rfl, by repeat (first | exact Ext.refl _ | refine Ext.alloc ?_ _ | assumption | refine Ext.over ?_ _ | refine Ext.drew ?_ | refine Ext.drewN ?_ _), by go_simp, by go_simp⟩
  case round =>
    obtain ⟨k, hk', hkn, rfl, he, b0, b1⟩ := hrel
    have HJ := hid hk'
    have HE := hid he
    have HL := hid (hl.ext he)
    have hO := hg.ext he
    clear hk' hk
    by_cases hlt : k < g.length
    · obtain ⟨ob, off, rfl, hc⟩ := hO.ints hlt
      have c1 := hc k hlt
      clear hc he hg hl hO
      cases g1 : btw (atI g k) 0 (h - 1)
      · have HB := hid (show halls h l g = false by first | exact halls_no HK.out | exact halls_out hlt g1)
        go_wp2_with (go_at_call 42; refine (gives_b g1 (isHall_any _ _ _ _ _ _ h1 h7)).over.mono ?_; rintro e w' ⟨rfl, xw, rfl⟩)
        go_ret
        exact ⟨by rw [HB.out]; rfl, HE.out.trans (by repeat (first | exact Ext.refl _ | refine Ext.alloc ?_ _ | assumption | refine Ext.over ?_ _ | refine Ext.drew ?_ | refine Ext.drewN ?_ _))⟩
      · have HB := hid (fun (j : Nat) (hj : j = k) => hj ▸ (show (fun j => inH h g j = true) k from g1))
        go_wp2_with (go_at_call 42; refine (gives_b g1 (isHall_any _ _ _ _ _ _ h1 h7)).over.mono ?_; rintro e w' ⟨rfl, xw, rfl⟩)
        go_roundw
        case rel => exact ⟨k + 1, lt_succ_all HJ.out (HB.out k rfl), by omega, by go_num, HE.out.trans (by repeat (first | exact Ext.refl _ | refine Ext.alloc ?_ _ | assumption | refine Ext.over ?_ _ | refine Ext.drew ?_ | refine Ext.drewN ?_ _)), by go_simp, by go_simp⟩
        case measure => simp [intOf]; omega
    · have HB := hid (show halls h l g = true by first | exact halls_no HK.out | (unfold halls; rw [HK.out, allN_true (fun j hj => HJ.out j (by omega))]; rfl))
      go_wp2_with (go_at_call 15; refine (gives_b HK.out (iHouseOk_any _ _ _ _ l _ (HL.out.ext (by repeat (first | exact Ext.refl _ | refine Ext.alloc ?_ _ | assumption | refine Ext.over ?_ _ | refine Ext.drew ?_ | refine Ext.drewN ?_ _))) rfl hx)).over.mono ?_; rintro e w' ⟨rfl, xw, rfl⟩)
      go_ret
      exact ⟨by rw [HB.out]; rfl, HE.out.trans (by repeat (first | exact Ext.refl _ | refine Ext.alloc ?_ _ | assumption | refine Ext.over ?_ _ | refine Ext.drew ?_ | refine Ext.drewN ?_ _))⟩
theorem ihalls_any (h : Int) (A : Option Addr) (n c : Nat) (l : List T2) (B : Option Addr) (m d : Nat) (g : List Int) (w : World) (hl : Row w A (l.flatMap T2.v)) (hn : l.length = n) (hx : n ≤ 1048577) (hg : Row w B (g.map (Value.int .i64))) (hm : g.length = m) (hy : m ≤ 1048577) :
    Gives Try.prog 61 #[.agg #[.int .i64 h, .slice A n c], .slice B m d] w (.bool (halls h l g)) := by
  cases hk : houseOk h l
  · exact ihallsOk_no h A n c l B m d g w hl hn hx hg hm hy hk
  · exact ihallsOk_yes h A n c l B m d g w hl hn hx hg hm hy hk
end Go.Proofs.Ytngniniiohgilaa
