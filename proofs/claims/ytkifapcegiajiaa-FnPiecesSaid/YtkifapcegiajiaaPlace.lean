/- Walks: places of points in polygons of any size. Conditions: at most 1048577 corners. -/
import Derived.Test.YtkifapcegiajiaaOn
namespace Go.Proofs.Ytkifapcegiajiaa
open Go.RowKit
set_option linter.unusedVariables false

theorem nx_mod {n i : Nat} (h : i < n) : ((i : Int) + 1).tmod n = (nx n i : Nat) := by
  rw [Int.tmod_eq_emod_of_nonneg (by omega)]; unfold nx; exact (by push_cast; rfl)
theorem allN_no {n : Nat} {p : Nat → Bool} (h : ∀ j, j < n → p j = false) : allN n (fun i => !p i) = true := allN_true fun j hj => by rw [h j hj]; rfl
set_option maxHeartbeats 1600000 in
theorem place_any (A : Option Addr) (n c : Nat) (L : List T2) (p : T2) (w : World) (hl : Row w A (L.flatMap T2.v)) (hn : L.length = n) (hx : n ≤ 1048577) : Gives Try.prog 62 #[.slice A n c, ptV p] w (.int .i64 (placeI L p)) := by
  subst hn
  unfold ptV
  (unfold Gives; go_enter Try.func62, Try.ntmps62)
  go_wp2_with fail
  obtain ⟨wt, hwt⟩ : ∃ wt, wt = w.alloc (.cells #[.int .i64 p.a, .int .i64 p.b] 35) := ⟨_, rfl⟩
  have het : Ext w wt := by rw [hwt]; repeat (first | exact Ext.refl _ | refine Ext.alloc ?_ _ | assumption | refine Ext.over ?_ _ | refine Ext.drew ?_ | refine Ext.drewN ?_ _)
  have b0 : wt.cell? ⟨w.heap.size, 0, none⟩ = some (.int .i64 p.a) := by rw [hwt]; go_simp
  have b1 : wt.cell? ⟨w.heap.size, 1, none⟩ = some (.int .i64 p.b) := by rw [hwt]; go_simp
  have HL := hid (hl.ext het)
  have HT := hid het
  rw [← hwt]
  generalize w.heap.size = gh at b0 b1 ⊢
  clear hwt het hl
  go_loopw [5, 11] (fun iv kv wr => ∃ (k : Nat) (z : Bool), (∀ j, j < k → onAt L p j = false) ∧ k ≤ L.length ∧ kv = .int .i64 ↑k ∧ iv = .bool z ∧ parN (flipI L p) k = z ∧ Ext wt wr) (fun _ kv _ => L.length - (intOf kv).toNat)
  case atStart => exact ⟨0, false, by omega, by omega, rfl, rfl, rfl, by repeat (first | exact Ext.refl _ | refine Ext.alloc ?_ _ | assumption | refine Ext.over ?_ _ | refine Ext.drew ?_ | refine Ext.drewN ?_ _)⟩
  case round =>
    obtain ⟨k, z, hk, hkl, rfl, rfl, hz, he⟩ := hrel
    have HZ := hid hz
    have HK := hid hk
    have HE := hid he
    have p0 := old_cell he b0
    have p1 := old_cell he b1
    have HW := hid (HT.out.trans he)
    clear hk he hz
    by_cases hlt : k < L.length
    · have hnl := nx_lt hlt
      have hmod := nx_mod hlt
      obtain ⟨b, off, rfl, hc⟩ := (HL.out.ext HE.out).t2 hlt
      obtain ⟨c1, c2⟩ := hc k hlt
      obtain ⟨d1, d2⟩ := hc _ hnl
      rw [show at2 L (nx L.length k) = nxt L k from rfl] at d1 d2
      clear hc
      have HF := hid (show flipI L p k = fI (at2 L k) (nxt L k) p from rfl)
      have HO := hid (show onAt L p k = onP p (at2 L k) (nxt L k) from rfl)
      generalize nx L.length k = m at hnl hmod d1 d2
      generalize nxt L k = q at HF HO d1 d2
      generalize at2 L k = a at HF HO c1 c2
      cases ho : onP p a q
      · go_wp2_with (go_at_call 86; refine (gives_b ho (on_any p a q _)).over.mono ?_; rintro e w' ⟨rfl, xw, rfl⟩)
        have HN := hid (lt_succ_all HK.out (HO.out.trans ho))
        by_cases x1 : p.b < a.b
        all_goals
          by_cases x2 : p.b < q.b
        · have HP := hid (show parN (flipI L p) (k + 1) = z by rw [parN_no (by rw [HF.out]; unfold fI; rw [decide_eq_true x1, decide_eq_true x2]; rfl)]; exact HZ.out)
          (refine wp_region_calm (by kernel_rfl) (by kernel_rfl) ?_; (repeat (go_big_quiet_step (fail))); refine wpQuiet_nil ?_; rintro w1 ⟨x1, rfl⟩)
          go_wp2_with fail
          go_roundw
          case rel => exact ⟨k + 1, z, HN.out, by omega, by go_num, rfl, HP.out, HE.out.trans (by repeat (first | exact Ext.refl _ | refine Ext.alloc ?_ _ | assumption | refine Ext.over ?_ _ | refine Ext.drew ?_ | refine Ext.drewN ?_ _))⟩
          case measure => simp [intOf]; omega
        · obtain ⟨t, ht⟩ : ∃ t, decide (0 < turnP a q p) = t := ⟨_, rfl⟩
          have HP := hid (show parN (flipI L p) (k + 1) = xor z (t == false) by rw [show parN (flipI L p) (k + 1) = xor (parN (flipI L p) k) (flipI L p k) from rfl, HZ.out, HF.out]; unfold fI; rw [decide_eq_true x1, decide_eq_false x2, ht, decide_eq_false (show ¬ a.b < q.b by omega)]; rfl)
          cases t
          all_goals
            have x3 : ¬ a.b < q.b := by omega
            unfold turnP at ht
            (refine wp_region_calm (by kernel_rfl) (by kernel_rfl) ?_; (repeat (go_big_quiet_step ((go_at_call 82; exact (iturn_any _ _ _ _ _ _ _).calm)))); refine wpQuiet_nil ?_; rintro w1 ⟨x1, rfl⟩)
            go_wp2_with fail
            go_roundw
            case rel => exact ⟨k + 1, _, HN.out, by omega, by go_num, rfl, by rw [HP.out]; cases z <;> rfl, HE.out.trans (by repeat (first | exact Ext.refl _ | refine Ext.alloc ?_ _ | assumption | refine Ext.over ?_ _ | refine Ext.drew ?_ | refine Ext.drewN ?_ _))⟩
            case measure => simp [intOf]; omega
        · obtain ⟨t, ht⟩ : ∃ t, decide (0 < turnP a q p) = t := ⟨_, rfl⟩
          have HP := hid (show parN (flipI L p) (k + 1) = xor z (t == true) by rw [show parN (flipI L p) (k + 1) = xor (parN (flipI L p) k) (flipI L p k) from rfl, HZ.out, HF.out]; unfold fI; rw [decide_eq_false x1, decide_eq_true x2, ht, decide_eq_true (show a.b < q.b by omega)]; rfl)
          cases t
          all_goals
            have x3 : a.b < q.b := by omega
            unfold turnP at ht
            (refine wp_region_calm (by kernel_rfl) (by kernel_rfl) ?_; (repeat (go_big_quiet_step ((go_at_call 82; exact (iturn_any _ _ _ _ _ _ _).calm)))); refine wpQuiet_nil ?_; rintro w1 ⟨x1, rfl⟩)
            go_wp2_with fail
            go_roundw
            case rel => exact ⟨k + 1, _, HN.out, by omega, by go_num, rfl, by rw [HP.out]; cases z <;> rfl, HE.out.trans (by repeat (first | exact Ext.refl _ | refine Ext.alloc ?_ _ | assumption | refine Ext.over ?_ _ | refine Ext.drew ?_ | refine Ext.drewN ?_ _))⟩
            case measure => simp [intOf]; omega
        · have HP := hid (show parN (flipI L p) (k + 1) = z by rw [parN_no (by rw [HF.out]; unfold fI; rw [decide_eq_false x1, decide_eq_false x2]; rfl)]; exact HZ.out)
          (refine wp_region_calm (by kernel_rfl) (by kernel_rfl) ?_; (repeat (go_big_quiet_step (fail))); refine wpQuiet_nil ?_; rintro w1 ⟨x1, rfl⟩)
          go_wp2_with fail
          go_roundw
          case rel => exact ⟨k + 1, z, HN.out, by omega, by go_num, rfl, HP.out, HE.out.trans (by repeat (first | exact Ext.refl _ | refine Ext.alloc ?_ _ | assumption | refine Ext.over ?_ _ | refine Ext.drew ?_ | refine Ext.drewN ?_ _))⟩
          case measure => simp [intOf]; omega
      · go_wp2_with (go_at_call 86; refine (gives_b ho (on_any p a q _)).over.mono ?_; rintro e w' ⟨rfl, xw, rfl⟩)
        go_ret
        refine ⟨?_, HW.out.trans (by repeat (first | exact Ext.refl _ | refine Ext.alloc ?_ _ | assumption | refine Ext.over ?_ _ | refine Ext.drew ?_ | refine Ext.drewN ?_ _))⟩
        refine congrArg (fun b => Ending.returned (Value.int .i64 b)) ?_
        unfold placeI offW
        rw [allN_false hlt (by rw [HO.out, ho]; rfl)]; rfl
    · obtain rfl : k = L.length := by omega
      cases z
      all_goals
        go_wp2_with fail
        go_ret
        refine ⟨?_, HW.out.trans (by repeat (first | exact Ext.refl _ | refine Ext.alloc ?_ _ | assumption | refine Ext.over ?_ _ | refine Ext.drew ?_ | refine Ext.drewN ?_ _))⟩
        refine congrArg (fun b => Ending.returned (Value.int .i64 b)) ?_
        unfold placeI offW
        rw [allN_no HK.out, HZ.out]; rfl
end Go.Proofs.Ytkifapcegiajiaa
