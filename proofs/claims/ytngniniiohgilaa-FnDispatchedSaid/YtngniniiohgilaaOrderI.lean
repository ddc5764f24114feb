/- Walks: OrderOk. Conditions: sizes. -/
import Derived.Test.YtngniniiohgilaaHas
import Derived.Test.YtngniniiohgilaaInts
namespace Go.Proofs.Ytngniniiohgilaa
open Go.RowKit
set_option linter.unusedVariables false

def ordAt (h : Int) (o : List Int) (k : Nat) : Bool := btw (atI o k) 0 (h - 1) && !memI (o.take k) (atI o k)
def orderOk (h : Int) (l : List T2) (o : List Int) : Bool := allN o.length (ordAt h o) && (houseOk h l && ((o.length : Int) == h))
theorem orderOk_bad {h : Int} {l : List T2} {o : List Int} {k : Nat} (hk : k < o.length) (g : ordAt h o k = false) : orderOk h l o = false := by unfold orderOk; rw [allN_false hk g]; rfl
theorem orderOk_all {h : Int} {l : List T2} {o : List Int} (g : ∀ k, k < o.length → ordAt h o k = true) : orderOk h l o = (houseOk h l && ((o.length : Int) == h)) := by unfold orderOk; rw [allN_true g]; rfl
theorem ord_out {h : Int} {o : List Int} {k : Nat} (g : btw (atI o k) 0 (h - 1) = false) : ordAt h o k = false := by unfold ordAt; rw [g]; rfl
theorem ord_two {h : Int} {o : List Int} {k : Nat} (g : memI (o.take k) (atI o k) = true) : ordAt h o k = false := by unfold ordAt; rw [g]; simp
theorem ord_ok {h : Int} {o : List Int} {k : Nat} (g : btw (atI o k) 0 (h - 1) = true) (g' : memI (o.take k) (atI o k) = false) : ordAt h o k = true := by unfold ordAt; rw [g, g']; rfl
set_option maxRecDepth 100000 in
set_option maxHeartbeats 1600000 in
theorem iOrderOk_any (h : Int) (A : Option Addr) (n c : Nat) (l : List T2) (B : Option Addr) (m d : Nat) (o : List Int) (w : World) (hl : Row w A (l.flatMap T2.v)) (hn : l.length = n) (hx : n ≤ 1048577) (ho : Row w B (o.map (Value.int .i64))) (hm : o.length = m) (hy : m ≤ 1048577) (hcap : m ≤ d) :
    Gives Try.prog 22 #[.agg #[.int .i64 h, .slice A n c], .slice B m d] w (.bool (orderOk h l o)) := by
  subst hn hm
  cases hk : houseOk h l
  · have HB := hid (show orderOk h l o = false by unfold orderOk; rw [hk]; simp)
    (unfold Gives; go_enter Try.func22, Try.ntmps22)
    go_wp2_with (go_at_call 15; refine (gives_b hk (iHouseOk_any _ _ _ _ l _ (hl.ext (by repeat (first | exact Ext.refl _ | refine Ext.alloc ?_ _ | assumption | refine Ext.over ?_ _ | refine Ext.drew ?_ | refine Ext.drewN ?_ _))) rfl hx)).over.mono ?_; rintro e w' ⟨rfl, xw, rfl⟩)
    go_ret
    exact ⟨by rw [HB.out]; rfl, by repeat (first | exact Ext.refl _ | refine Ext.alloc ?_ _ | assumption | refine Ext.over ?_ _ | refine Ext.drew ?_ | refine Ext.drewN ?_ _)⟩
  obtain ⟨hdo, h1, h7, h12⟩ := houseOk_bounds hk
  clear hdo
  by_cases hlen : (o.length : Int) = h
  rotate_left
  · have HB := hid (show orderOk h l o = false by unfold orderOk; rw [beq_eq_false_iff_ne.2 hlen]; simp)
    (unfold Gives; go_enter Try.func22, Try.ntmps22)
    go_wp2_with (go_at_call 15; refine (gives_b hk (iHouseOk_any _ _ _ _ l _ (hl.ext (by repeat (first | exact Ext.refl _ | refine Ext.alloc ?_ _ | assumption | refine Ext.over ?_ _ | refine Ext.drew ?_ | refine Ext.drewN ?_ _))) rfl hx)).over.mono ?_; rintro e w' ⟨rfl, xw, rfl⟩)
    go_ret
    exact ⟨by rw [HB.out]; rfl, by repeat (first | exact Ext.refl _ | refine Ext.alloc ?_ _ | assumption | refine Ext.over ?_ _ | refine Ext.drew ?_ | refine Ext.drewN ?_ _)⟩
  have HK := hid hk
  subst hlen
  (unfold Gives; go_enter Try.func22, Try.ntmps22)
  go_wp2_with (go_at_call 15; refine (gives_b HK.out (iHouseOk_any _ _ _ _ l _ (hl.ext (by repeat (first | exact Ext.refl _ | refine Ext.alloc ?_ _ | assumption | refine Ext.over ?_ _ | refine Ext.drew ?_ | refine Ext.drewN ?_ _))) rfl hx)).over.mono ?_; rintro e w' ⟨rfl, xw, rfl⟩)
  go_loopw [19] (fun i wr => ∃ (k : Nat), (∀ j, j < k → ordAt o.length o j = true) ∧ k ≤ o.length ∧ i = .int .i64 ↑k ∧ Ext w wr ∧ wr.cell? ⟨w.heap.size, 0, none⟩ = some (.int .i64 o.length) ∧ wr.cell? ⟨w.heap.size, 1, none⟩ = some (.slice A l.length c)) (fun i _ => (o.length - (intOf i).toNat))
  case atStart => exact ⟨0, by omega, by omega, rfl, by repeat (first | exact Ext.refl _ | refine Ext.alloc ?_ _ | assumption | refine Ext.over ?_ _ | refine Ext.drew ?_ | refine Ext.drewN ?_ _), by go_simp, by go_simp⟩
  case round =>
    obtain ⟨k, hk', hkn, rfl, he, b0, b1⟩ := hrel
    have HJ := hid hk'
    have HE := hid he
    have hO := ho.ext he
    have HR := hid (hO.take k)
    clear hk' hk
    by_cases hlt : k < o.length
    · obtain ⟨ob, off, rfl, hc⟩ := hO.ints hlt
      have c1 := hc k hlt
      clear hc he ho hl hO
      cases g1 : btw (atI o k) 0 ((o.length : Int) - 1)
      · have HB := hid (orderOk_bad (l := l) hlt (ord_out g1))
        go_wp2_with (go_at_call 42; refine (gives_b g1 (isHall_any _ _ _ _ _ _ h1 h7)).over.mono ?_; rintro e w' ⟨rfl, xw, rfl⟩)
        go_ret
        exact ⟨by rw [HB.out]; rfl, HE.out.trans (by repeat (first | exact Ext.refl _ | refine Ext.alloc ?_ _ | assumption | refine Ext.over ?_ _ | refine Ext.drew ?_ | refine Ext.drewN ?_ _))⟩
      cases g2 : memI (o.take k) (atI o k)
      · have HB := hid (ord_ok g1 g2)
        go_wp2_with (first | (go_at_call 42; refine (gives_b g1 (isHall_any _ _ _ _ _ _ h1 h7)).over.mono ?_; rintro e w' ⟨rfl, xw, rfl⟩) | (go_at_call 49; refine (gives_b g2 (Contains_any _ _ _ (o.take k) _ _ (HR.out.ext (by repeat (first | exact Ext.refl _ | refine Ext.alloc ?_ _ | assumption | refine Ext.over ?_ _ | refine Ext.drew ?_ | refine Ext.drewN ?_ _))) (by rw [List.length_take]; omega) (by omega))).over.mono ?_; rintro e w' ⟨rfl, xw, rfl⟩))
        go_roundw
        case rel => exact ⟨k + 1, lt_succ_all HJ.out HB.out, by omega, by go_num, HE.out.trans (by repeat (first | exact Ext.refl _ | refine Ext.alloc ?_ _ | assumption | refine Ext.over ?_ _ | refine Ext.drew ?_ | refine Ext.drewN ?_ _)), by go_simp, by go_simp⟩
        case measure => simp [intOf]; omega
      · have HB := hid (orderOk_bad (l := l) hlt (ord_two (h := o.length) g2))
        go_wp2_with (first | (go_at_call 42; refine (gives_b g1 (isHall_any _ _ _ _ _ _ h1 h7)).over.mono ?_; rintro e w' ⟨rfl, xw, rfl⟩) | (go_at_call 49; refine (gives_b g2 (Contains_any _ _ _ (o.take k) _ _ (HR.out.ext (by repeat (first | exact Ext.refl _ | refine Ext.alloc ?_ _ | assumption | refine Ext.over ?_ _ | refine Ext.drew ?_ | refine Ext.drewN ?_ _))) (by rw [List.length_take]; omega) (by omega))).over.mono ?_; rintro e w' ⟨rfl, xw, rfl⟩))
        go_ret
        exact ⟨by rw [HB.out]; rfl, HE.out.trans (by repeat (first | exact Ext.refl _ | refine Ext.alloc ?_ _ | assumption | refine Ext.over ?_ _ | refine Ext.drew ?_ | refine Ext.drewN ?_ _))⟩
    · have HB := hid (show orderOk o.length l o = true by rw [orderOk_all (fun j hj => HJ.out j (by omega)), HK.out]; simp)
      go_wp2_with fail
      go_ret
      exact ⟨by rw [HB.out]; rfl, HE.out⟩
end Go.Proofs.Ytngniniiohgilaa
