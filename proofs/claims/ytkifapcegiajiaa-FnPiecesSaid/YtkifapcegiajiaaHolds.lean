/- Walks: the reference's places of points in polygons. Conditions: at most 1048577 corners. -/
import Derived.Test.YtkifapcegiajiaaPlace
namespace Go.Proofs.Ytkifapcegiajiaa
open Go.RowKit
set_option linter.unusedVariables false

def sg (z : Bool) : Int := if z then 1 else -1
set_option maxHeartbeats 1600000 in
theorem holds_any (A : Option Addr) (n c : Nat) (L : List T2) (p : T2) (w : World) (hl : Row w A (L.flatMap T2.v)) (hn : L.length = n) (hx : n ≤ 1048577) : Gives Try.prog 46 #[.slice A n c, ptV p] w (.int .i64 (holdsS L p)) := by
  subst hn
  unfold ptV
  (unfold Gives; go_enter Try.func46, Try.ntmps46)
  go_wp2_with fail
  obtain ⟨wt, hwt⟩ : ∃ wt, wt = w.alloc (.cells #[.int .i64 p.a, .int .i64 p.b] 35) := ⟨_, rfl⟩
  have het : Ext w wt := by rw [hwt]; repeat (first | exact Ext.refl _ | refine Ext.alloc ?_ _ | assumption | refine Ext.over ?_ _ | refine Ext.drew ?_ | refine Ext.drewN ?_ _)
  have b0 : wt.cell? ⟨w.heap.size, 0, none⟩ = some (.int .i64 p.a) := by rw [hwt]; go_simp
  have b1 : wt.cell? ⟨w.heap.size, 1, none⟩ = some (.int .i64 p.b) := by rw [hwt]; go_simp
  have HL := hid (hl.ext het)
  have HT := hid het
  rw [← hwt]
  generalize w.heap.size = gh at b0 b1 ⊢
  clear hwt het hl
  go_loopw [5, 7] (fun iv kv wr => ∃ (k : Nat) (z : Bool), (∀ j, j < k → onAt L p j = false) ∧ k ≤ L.length ∧ kv = .int .i64 ↑k ∧ iv = .int .i64 (sg z) ∧ parN (flipS L p) k = z ∧ Ext wt wr) (fun _ kv _ => L.length - (intOf kv).toNat)
  case atStart => exact ⟨0, false, by omega, by omega, rfl, rfl, rfl, by repeat (first | exact Ext.refl _ | refine Ext.alloc ?_ _ | assumption | refine Ext.over ?_ _ | refine Ext.drew ?_ | refine Ext.drewN ?_ _)⟩
  case round =>
    obtain ⟨k, z, hk, hkl, rfl, rfl, hz, he⟩ := hrel
    have HZ := hid hz
    have HK := hid hk
    have HE := hid he
    have p0 := old_cell he b0
    have p1 := old_cell he b1
    have HW := hid (HT.out.trans he)
    clear hk he hz
    by_cases hlt : k < L.length
    · have hnl := nx_lt hlt
      have hmod := nx_mod hlt
      obtain ⟨b, off, rfl, hc⟩ := (HL.out.ext HE.out).t2 hlt
      obtain ⟨c1, c2⟩ := hc k hlt
      obtain ⟨d1, d2⟩ := hc _ hnl
      rw [show at2 L (nx L.length k) = nxt L k from rfl] at d1 d2
      clear hc
      have HF := hid (show flipS L p k = fS (at2 L k) (nxt L k) p from rfl)
      have HO := hid (show onAt L p k = onP p (at2 L k) (nxt L k) from rfl)
      generalize nx L.length k = m at hnl hmod d1 d2
      generalize nxt L k = q at HF HO d1 d2
      generalize at2 L k = a at HF HO c1 c2
      cases ho : onP p a q
      · have HN := hid (lt_succ_all HK.out (HO.out.trans ho))
        have HX := hid (show parN (flipS L p) (k + 1) = xor z (fS a q p) by rw [show parN (flipS L p) (k + 1) = xor (parN (flipS L p) k) (flipS L p k) from rfl, HZ.out, HF.out])
        by_cases x1 : a.b ≤ p.b
        all_goals
          by_cases x2 : p.b < q.b
        · have x3 : ¬ q.b ≤ p.b := by omega
          obtain ⟨t, ht⟩ : ∃ t, decide (0 < turnP a q p) = t := ⟨_, rfl⟩
          have HP := hid (show parN (flipS L p) (k + 1) = xor z t by rw [HX.out]; unfold fS; rw [decide_eq_true x1, decide_eq_true x2, ht, decide_eq_false x3]; simp)
          unfold turnP at ht
          cases t
          all_goals
            cases z
            all_goals
              go_wp2_with (first | (go_at_call 59; refine (gives_b ho (sOn_any p a q _)).over.mono ?_; rintro e w' ⟨rfl, xw, rfl⟩) | (go_at_call 76; refine (sturn_any _ _ _ _ _ _ _).over.mono ?_; rintro e w' ⟨rfl, xw, rfl⟩))
              go_roundw
              case rel => exact ⟨k + 1, _, HN.out, by omega, by go_num, by first | rfl | exact congrArg (Value.int .i64) (by rw [IntWalk.wrap64_in _ (by decide)]; rfl), HP.out, HE.out.trans (by repeat (first | exact Ext.refl _ | refine Ext.alloc ?_ _ | assumption | refine Ext.over ?_ _ | refine Ext.drew ?_ | refine Ext.drewN ?_ _))⟩
              case measure => simp [intOf]; omega
        · have x3 : q.b ≤ p.b := by omega
          have x4 : ¬ p.b < a.b := by omega
          have HP := hid (show parN (flipS L p) (k + 1) = z by rw [HX.out]; unfold fS; rw [decide_eq_true x1, decide_eq_false x2, decide_eq_true x3, decide_eq_false x4]; simp)
          go_wp2_with (first | (go_at_call 59; refine (gives_b ho (sOn_any p a q _)).over.mono ?_; rintro e w' ⟨rfl, xw, rfl⟩) | (go_at_call 76; refine (sturn_any _ _ _ _ _ _ _).over.mono ?_; rintro e w' ⟨rfl, xw, rfl⟩))
          go_roundw
          case rel => exact ⟨k + 1, _, HN.out, by omega, by go_num, by first | rfl | exact congrArg (Value.int .i64) (by rw [IntWalk.wrap64_in _ (by decide)]; rfl), HP.out, HE.out.trans (by repeat (first | exact Ext.refl _ | refine Ext.alloc ?_ _ | assumption | refine Ext.over ?_ _ | refine Ext.drew ?_ | refine Ext.drewN ?_ _))⟩
          case measure => simp [intOf]; omega
        · have x3 : ¬ q.b ≤ p.b := by omega
          have HP := hid (show parN (flipS L p) (k + 1) = z by rw [HX.out]; unfold fS; rw [decide_eq_false x1, decide_eq_false x3]; simp)
          go_wp2_with (first | (go_at_call 59; refine (gives_b ho (sOn_any p a q _)).over.mono ?_; rintro e w' ⟨rfl, xw, rfl⟩) | (go_at_call 76; refine (sturn_any _ _ _ _ _ _ _).over.mono ?_; rintro e w' ⟨rfl, xw, rfl⟩))
          go_roundw
          case rel => exact ⟨k + 1, _, HN.out, by omega, by go_num, by first | rfl | exact congrArg (Value.int .i64) (by rw [IntWalk.wrap64_in _ (by decide)]; rfl), HP.out, HE.out.trans (by repeat (first | exact Ext.refl _ | refine Ext.alloc ?_ _ | assumption | refine Ext.over ?_ _ | refine Ext.drew ?_ | refine Ext.drewN ?_ _))⟩
          case measure => simp [intOf]; omega
        · have x3 : q.b ≤ p.b := by omega
          have x4 : p.b < a.b := by omega
          obtain ⟨t, ht⟩ : ∃ t, decide (turnP a q p < 0) = t := ⟨_, rfl⟩
          have HP := hid (show parN (flipS L p) (k + 1) = xor z t by rw [HX.out]; unfold fS; rw [decide_eq_false x1, decide_eq_false x2, ht, decide_eq_true x3, decide_eq_true x4]; simp)
          unfold turnP at ht
          cases t
          all_goals
            cases z
            all_goals
              go_wp2_with (first | (go_at_call 59; refine (gives_b ho (sOn_any p a q _)).over.mono ?_; rintro e w' ⟨rfl, xw, rfl⟩) | (go_at_call 76; refine (sturn_any _ _ _ _ _ _ _).over.mono ?_; rintro e w' ⟨rfl, xw, rfl⟩))
              go_roundw
              case rel => exact ⟨k + 1, _, HN.out, by omega, by go_num, by first | rfl | exact congrArg (Value.int .i64) (by rw [IntWalk.wrap64_in _ (by decide)]; rfl), HP.out, HE.out.trans (by repeat (first | exact Ext.refl _ | refine Ext.alloc ?_ _ | assumption | refine Ext.over ?_ _ | refine Ext.drew ?_ | refine Ext.drewN ?_ _))⟩
              case measure => simp [intOf]; omega
      · go_wp2_with (go_at_call 59; refine (gives_b ho (sOn_any p a q _)).over.mono ?_; rintro e w' ⟨rfl, xw, rfl⟩)
        go_ret
        refine ⟨?_, HW.out.trans (by repeat (first | exact Ext.refl _ | refine Ext.alloc ?_ _ | assumption | refine Ext.over ?_ _ | refine Ext.drew ?_ | refine Ext.drewN ?_ _))⟩
        refine congrArg (fun b => Ending.returned (Value.int .i64 b)) ?_
        unfold holdsS offW
        rw [allN_false hlt (by rw [HO.out, ho]; rfl)]; rfl
    · obtain rfl : k = L.length := by omega
      have HV := hid (show holdsS L p = sg z by unfold holdsS offW; rw [allN_no HK.out, HZ.out]; rfl)
      go_wp2_with fail
      go_ret
      refine ⟨?_, HW.out.trans (by repeat (first | exact Ext.refl _ | refine Ext.alloc ?_ _ | assumption | refine Ext.over ?_ _ | refine Ext.drew ?_ | refine Ext.drewN ?_ _))⟩
      refine congrArg (fun b => Ending.returned (Value.int .i64 b)) ?_
      rw [HV.out]
end Go.Proofs.Ytkifapcegiajiaa
