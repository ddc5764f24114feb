/- Walks: the program's RoomOk. Conditions: at most 1048577 corners. -/
import Derived.Test.YtkifapcegiajiaaWalls
namespace Go.Proofs.Ytkifapcegiajiaa
open Go.RowKit
set_option linter.unusedVariables false

set_option maxRecDepth 100000 in
theorem area_any (A : Option Addr) (n c : Nat) (L : List T2) (w : World) (hl : Row w A (L.flatMap T2.v)) (hn : L.length = n) (hx : n ≤ 1048577) : Gives Try.prog 84 #[.slice A n c] w (.int .i64 (dblI L n)) := by
  subst hn
  have HL := hid hl
  clear hl
  (unfold Gives; go_enter Try.func84, Try.ntmps84)
  go_wp2_with fail
  refine (wallsOf_any A L.length c L w HL.out rfl hx).mono ?_
  rintro _ w1 ⟨B, c', rfl, ho, he⟩
  have HO := hid (Row.of_own ho)
  have H1 := hid he
  clear ho he
  go_wp2_with fail
  go_loopw [3, 9] (fun sv kv wr => ∃ (k : Nat), k ≤ L.length ∧ kv = .int .i64 ↑k ∧ sv = .int .i64 (dblI L k) ∧ Ext w1 wr) (fun _ kv _ => L.length - (intOf kv).toNat)
  case atStart => exact ⟨0, by omega, rfl, rfl, by repeat (first | exact Ext.refl _ | refine Ext.alloc ?_ _ | assumption | refine Ext.over ?_ _ | refine Ext.drew ?_ | refine Ext.drewN ?_ _)⟩
  case round =>
    obtain ⟨k, hkl, rfl, rfl, he⟩ := hrel
    have HE := hid he
    clear he
    by_cases hlt : k < L.length
    · obtain ⟨b, off, rfl, hc⟩ := (HO.out.ext HE.out).w4 hlt
      obtain ⟨c1, c2, c3, c4⟩ := hc k hlt
      clear hc
      have HD := hid (show dblI L (k + 1) = wrap64 (dblI L k + wrap64 (wrap64 ((at2 L k).a * (nxt L k).b) - wrap64 ((at2 L k).b * (nxt L k).a))) from rfl)
      go_wp2_with fail
      go_roundw
      case rel => exact ⟨k + 1, by omega, by go_num, by rw [HD.out], HE.out.trans (by repeat (first | exact Ext.refl _ | refine Ext.alloc ?_ _ | assumption | refine Ext.over ?_ _ | refine Ext.drew ?_ | refine Ext.drewN ?_ _))⟩
      case measure => simp [intOf]; omega
    · obtain rfl : k = L.length := by omega
      go_wp2_with fail
      go_ret
      exact ⟨rfl, H1.out.trans HE.out⟩
theorem roomI_len {L : List T2} (h : lenOk L = false) : roomI L = false := by unfold roomI; rw [h]; rfl
theorem roomI_pok {L : List T2} (h : poks L = false) : roomI L = false := by unfold roomI; rw [h]; simp
theorem roomI_row {L : List T2} {i : Nat} (hi : i < L.length) (h : rowI L i = false) : roomI L = false := by unfold roomI; rw [allN_false hi h]; simp
theorem rowI_bend {L : List T2} {i : Nat} (h : bend L i = true) : rowI L i = false := by unfold rowI; rw [h]; rfl
theorem rowI_pair {L : List T2} {i k : Nat} (hk : k < L.length) (h : pairI L i k = false) : rowI L i = false := by unfold rowI; rw [allN_false hk h]; simp
theorem nx2_mod {n i : Nat} (h : i < n) : ((i : Int) + 2).tmod n = (nx2 n i : Nat) := by
  rw [Int.tmod_eq_emod_of_nonneg (by omega)]; unfold nx2; exact (by push_cast; rfl)
theorem nx2_lt {n i : Nat} (h : i < n) : nx2 n i < n := Nat.mod_lt _ (by omega)
set_option maxHeartbeats 3200000 in
set_option maxRecDepth 100000 in
theorem iRoomOk_any (A : Option Addr) (n c : Nat) (L : List T2) (w : World) (hl : Row w A (L.flatMap T2.v)) (hn : L.length = n) (hx : n ≤ 1048577) : Gives Try.prog 54 #[.agg #[.slice A n c]] w (.bool (roomI L)) := by
  subst hn
  have HL := hid hl
  clear hl
  cases h1 : lenOk L
  · have HC := hid (roomI_len h1)
    unfold lenOk at h1
    (unfold Gives; go_enter Try.func54, Try.ntmps54)
    go_wp2_with (go_at_call 50; refine (gives_b h1 (between_any _ _ _ _)).over.mono ?_; rintro e w' ⟨rfl, xw, rfl⟩)
    go_ret
    refine ⟨by rw [HC.out]; rfl, ?_⟩
    repeat (first | exact Ext.refl _ | refine Ext.alloc ?_ _ | assumption | refine Ext.over ?_ _ | refine Ext.drew ?_ | refine Ext.drewN ?_ _)
  have hb : 3 ≤ L.length ∧ L.length ≤ 10 := by unfold lenOk at h1; rw [btw_iff] at h1; omega
  obtain ⟨hb3, hb10⟩ := hb
  cases h2 : poks L
  · have HC := hid (roomI_pok h2)
    unfold lenOk at h1
    (unfold Gives; go_enter Try.func54, Try.ntmps54)
    go_wp2_with (first | (go_at_call 50; refine (gives_b h1 (between_any _ _ _ _)).over.mono ?_; rintro e w' ⟨rfl, xw, rfl⟩) | (go_at_call 81; refine (gives_b h2 (pointsOk_any _ _ _ L _ (HL.out.ext (by repeat (first | exact Ext.refl _ | refine Ext.alloc ?_ _ | assumption | refine Ext.over ?_ _ | refine Ext.drew ?_ | refine Ext.drewN ?_ _))) rfl (by omega))).over.mono ?_; rintro e w' ⟨rfl, xw, rfl⟩))
    go_ret
    refine ⟨by rw [HC.out]; rfl, ?_⟩
    repeat (first | exact Ext.refl _ | refine Ext.alloc ?_ _ | assumption | refine Ext.over ?_ _ | refine Ext.drew ?_ | refine Ext.drewN ?_ _)
  have HC := hid (show roomI L = (allN L.length (rowI L) && decide (0 < dblI L L.length)) by unfold roomI; rw [h1, h2]; rfl)
  unfold lenOk at h1
  (unfold Gives; go_enter Try.func54, Try.ntmps54)
  go_wp2_with (first | (go_at_call 50; refine (gives_b h1 (between_any _ _ _ _)).over.mono ?_; rintro e w' ⟨rfl, xw, rfl⟩) | (go_at_call 81; refine (gives_b h2 (pointsOk_any _ _ _ L _ (HL.out.ext (by repeat (first | exact Ext.refl _ | refine Ext.alloc ?_ _ | assumption | refine Ext.over ?_ _ | refine Ext.drew ?_ | refine Ext.drewN ?_ _))) rfl (by omega))).over.mono ?_; rintro e w' ⟨rfl, xw, rfl⟩))
  refine (wallsOf_any A L.length c L _ (HL.out.ext (by repeat (first | exact Ext.refl _ | refine Ext.alloc ?_ _ | assumption | refine Ext.over ?_ _ | refine Ext.drew ?_ | refine Ext.drewN ?_ _))) rfl hx).mono ?_
  rintro _ w1 ⟨B, c', rfl, ho, he⟩
  have b0 : w1.cell? ⟨w.heap.size, 0, none⟩ = some (.slice A L.length c) := old_cell he (by go_simp)
  have HO := hid (Row.of_own ho)
  have H1 := hid (Ext.trans (show Ext w _ by repeat (first | exact Ext.refl _ | refine Ext.alloc ?_ _ | assumption | refine Ext.over ?_ _ | refine Ext.drew ?_ | refine Ext.drewN ?_ _)) he)
  have HLW := hid (HL.out.ext H1.out)
  generalize w.heap.size = gh at b0 ⊢
  clear ho he HL
  go_wp2_with fail
  go_loopw [25] (fun iv wr => ∃ (i : Nat), i ≤ L.length ∧ iv = .int .i64 ↑i ∧ (∀ j, j < i → rowI L j = true) ∧ Ext w1 wr) (fun iv _ => L.length - (intOf iv).toNat)
  case atStart => exact ⟨0, by omega, rfl, by omega, Ext.refl _⟩
  case round =>
    obtain ⟨i, hi, rfl, hrow, he⟩ := hrel
    have HR := hid hrow
    have HE := hid he
    have q0 := old_cell he b0
    have HX := hid (H1.out.trans he)
    clear hrow he
    by_cases hlt : i < L.length
    · have hn2 := nx2_lt hlt
      have hmod2 := nx2_mod hlt
      obtain ⟨bb, boff, hB, hcb⟩ := (HO.out.ext HE.out).w4 hlt
      obtain ⟨c1, c2, c3, c4⟩ := hcb i hlt
      obtain ⟨b, off, hA, hc⟩ := (HLW.out.ext HE.out).t2 hlt
      obtain ⟨d1, d2⟩ := hc _ hn2
      have hz0 : ¬ L = [] := fun e => by rw [e] at hlt; simp at hlt
      have hwr : IntKind.i64.wrap ((i : Int) + 2) = (i : Int) + 2 := IntWalk.i64_in _ (by omega)
      have HBE := hid (show bend L i = (turnP (at2 L i) (nxt L i) (at2 L (nx2 L.length i)) == 0) from rfl)
      have HMA := hid (show ∀ k, meetA L i k = meetP (at2 L i) (nxt L i) (at2 L k) (nxt L k) from fun k => rfl)
      have HCB := hid hcb
      have HCA := hid hc
      subst hB hA
      generalize nx2 L.length i = m at hn2 hmod2 d1 d2 HBE
      generalize nxt L i = q at HBE HMA c3 c4
      generalize at2 L i = a at HBE HMA c1 c2
      generalize at2 L m = e at HBE d1 d2
      clear hcb hc
      cases hbe : bend L i
      · have hbt : (turnW a.a a.b q.a q.b e.a e.b == 0) = false := by have := HBE.out; rw [hbe] at this; exact this.symm
        have hm1 : (m : Int) < L.length := by omega
        go_wp2_with fail
        (refine wp_region_calm (by kernel_rfl) (by kernel_rfl) ?_; (repeat (go_big_quiet_step ((go_at_call 82; exact (iturn_any _ _ _ _ _ _ _).calm)))); refine wpQuiet_nil ?_; rintro w1 ⟨x1, rfl⟩)
        go_wp2_with fail
        obtain ⟨wy, hwy⟩ : ∃ wy, wy = ovr (wr.alloc (.cells #[.int .i64 a.a, .int .i64 a.b, .int .i64 q.a, .int .i64 q.b] 88)) x1 := ⟨_, rfl⟩
        have hey0 : Ext (wr.alloc (.cells #[.int .i64 a.a, .int .i64 a.b, .int .i64 q.a, .int .i64 q.b] 88)) wy := by rw [hwy]; repeat (first | exact Ext.refl _ | refine Ext.alloc ?_ _ | assumption | refine Ext.over ?_ _ | refine Ext.drew ?_ | refine Ext.drewN ?_ _)
        have y0 := (fresh_cells (j := 0) hey0 rfl).1
        have y1 := (fresh_cells (j := 1) hey0 rfl).1
        have y2 := (fresh_cells (j := 2) hey0 rfl).1
        have y3 := (fresh_cells (j := 3) hey0 rfl).1
        have HEY := hid ((Ext.alloc (Ext.refl wr) _).trans hey0)
        have v0 := old_cell HEY.out q0
        rw [← hwy]
        generalize wr.heap.size = gw at y0 y1 y2 y3 ⊢
        clear hwy hey0 c1 c2 c3 c4 d1 d2
        go_loopw [7] (fun kv wz => ∃ (k : Nat), i + 2 ≤ k ∧ (k ≤ L.length ∨ k = i + 2) ∧ kv = .int .i64 ↑k ∧ (∀ j, j < k → j < L.length → pairI L i j = true) ∧ Ext wy wz) (fun kv _ => L.length + 2 - (intOf kv).toNat)
        case atStart => exact ⟨i + 2, by omega, by omega, by go_num, (fun j hj _ => by unfold pairI; rw [decide_eq_true hj]; rfl), by repeat (first | exact Ext.refl _ | refine Ext.alloc ?_ _ | assumption | refine Ext.over ?_ _ | refine Ext.drew ?_ | refine Ext.drewN ?_ _)⟩
        case round =>
          obtain ⟨k, hk2, hkl, rfl, hpr, he⟩ := hrel
          have HP := hid hpr
          have HEZ := hid he
          have HXZ := hid (HX.out.trans (HEY.out.trans he))
          have z0 := old_cell he y0
          have z1 := old_cell he y1
          have z2 := old_cell he y2
          have z3 := old_cell he y3
          have u0 := old_cell he v0
          clear hpr he
          by_cases hkt : k < L.length
          · have hmod := nx_mod hkt
            have hwk : IntKind.i64.wrap ((k : Int) + 1) = (k : Int) + 1 := IntWalk.i64_in _ (by omega)
            obtain ⟨c1, c2, c3, c4⟩ := HCB.out k hkt
            have c1 := old_cell (HEY.out.trans HEZ.out) c1
            have c2 := old_cell (HEY.out.trans HEZ.out) c2
            have c3 := old_cell (HEY.out.trans HEZ.out) c3
            have c4 := old_cell (HEY.out.trans HEZ.out) c4
            have HM := hid (HMA.out k)
            have HPI := hid (show pairI L i k = ((nx L.length k == i) || !meetA L i k) by unfold pairI; rw [decide_eq_false (by omega), Bool.false_or])
            generalize nxt L k = s at c3 c4 HM
            generalize at2 L k = r at c1 c2 HM
            obtain ⟨mk, hmk⟩ : ∃ mk, mk = nx L.length k := ⟨_, rfl⟩
            rw [← hmk] at hmod HPI
            have hmkl : mk < L.length := by rw [hmk]; exact nx_lt hkt
            clear hmk
            have hkt' : (k : Int) < L.length := by omega
            by_cases hmi : mk = i
            · have hnn : ((mk : Int) != (i : Int)) = false := by rw [hmi]; simp
              have hmi' : (mk : Int) = (i : Int) := by omega
              have HN := hid (show ∀ j, j < k + 1 → j < L.length → pairI L i j = true from fun j hj hjl => by
                rcases Nat.lt_or_ge j k with h5 | h5
                · exact HP.out j h5 hjl
                · obtain rfl : j = k := by omega
                  rw [HPI.out, beq_iff_eq.2 hmi]; rfl)
              go_wp2_with fail
              (refine wp_region_calm (by kernel_rfl) (by kernel_rfl) ?_; (repeat (go_big_quiet_step (fail))); refine wpQuiet_nil ?_; rintro w1 ⟨x1, rfl⟩)
              go_wp2_with fail
              go_roundw
              case rel => exact ⟨k + 1, by omega, by omega, by go_num, HN.out, HEZ.out.trans (by repeat (first | exact Ext.refl _ | refine Ext.alloc ?_ _ | assumption | refine Ext.over ?_ _ | refine Ext.drew ?_ | refine Ext.drewN ?_ _))⟩
              case measure => simp [intOf]; omega
            · have hnn : ((mk : Int) != (i : Int)) = true := by simp; omega
              have hmi' : ¬ (mk : Int) = (i : Int) := by omega
              cases hmt : meetP a q r s
              · have HN := hid (show ∀ j, j < k + 1 → j < L.length → pairI L i j = true from fun j hj hjl => by
                  rcases Nat.lt_or_ge j k with h5 | h5
                  · exact HP.out j h5 hjl
                  · obtain rfl : j = k := by omega
                    rw [HPI.out, HM.out, hmt]; simp)
                go_wp2_with fail
                (refine wp_region_calm (by kernel_rfl) (by kernel_rfl) ?_; (repeat (go_big_quiet_step ((go_at_call 83; exact (gives_b hmt (iDoMeet_any a q r s _)).calm)))); refine wpQuiet_nil ?_; rintro w1 ⟨x1, rfl⟩)
                go_wp2_with fail
                go_roundw
                case rel => exact ⟨k + 1, by omega, by omega, by go_num, HN.out, HEZ.out.trans (by repeat (first | exact Ext.refl _ | refine Ext.alloc ?_ _ | assumption | refine Ext.over ?_ _ | refine Ext.drew ?_ | refine Ext.drewN ?_ _))⟩
                case measure => simp [intOf]; omega
              · have HV := hid (HC.out.trans (show _ = false by rw [allN_false hlt (rowI_pair hkt (by rw [HPI.out, HM.out, hmt, beq_eq_false_iff_ne.2 hmi]; rfl))]; rfl))
                go_wp2_with fail
                (refine wp_region_calm (by kernel_rfl) (by kernel_rfl) ?_; (repeat (go_big_quiet_step ((go_at_call 83; exact (gives_b hmt (iDoMeet_any a q r s _)).calm)))); refine wpQuiet_nil ?_; rintro w1 ⟨x1, rfl⟩)
                go_wp2_with fail
                go_ret
                refine ⟨by rw [HV.out]; rfl, HXZ.out.trans (by repeat (first | exact Ext.refl _ | refine Ext.alloc ?_ _ | assumption | refine Ext.over ?_ _ | refine Ext.drew ?_ | refine Ext.drewN ?_ _))⟩
          · have HN := hid (show rowI L i = true by unfold rowI; rw [hbe, allN_true (fun j hj => HP.out j (by omega) hj)]; rfl)
            go_wp2_with fail
            go_roundw
            case rel => exact ⟨i + 1, by omega, by go_num, lt_succ_all HR.out HN.out, HE.out.trans (HEY.out.trans (HEZ.out.trans (by repeat (first | exact Ext.refl _ | refine Ext.alloc ?_ _ | assumption | refine Ext.over ?_ _ | refine Ext.drew ?_ | refine Ext.drewN ?_ _))))⟩
            case measure => simp [intOf]; omega
      · have hbt : (turnW a.a a.b q.a q.b e.a e.b == 0) = true := by have := HBE.out; rw [hbe] at this; exact this.symm
        have hm1 : (m : Int) < L.length := by omega
        have HV := hid (HC.out.trans (show _ = false by rw [allN_false hlt (rowI_bend hbe)]; rfl))
        go_wp2_with fail
        (refine wp_region_calm (by kernel_rfl) (by kernel_rfl) ?_; (repeat (go_big_quiet_step ((go_at_call 82; exact (iturn_any _ _ _ _ _ _ _).calm)))); refine wpQuiet_nil ?_; rintro w1 ⟨x1, rfl⟩)
        go_wp2_with fail
        go_ret
        refine ⟨by rw [HV.out]; rfl, HX.out.trans (by repeat (first | exact Ext.refl _ | refine Ext.alloc ?_ _ | assumption | refine Ext.over ?_ _ | refine Ext.drew ?_ | refine Ext.drewN ?_ _))⟩
    · obtain rfl : i = L.length := by omega
      have HV := hid (HC.out.trans (show _ = decide (0 < dblI L L.length) by rw [allN_true HR.out]; rfl))
      go_wp2_with (go_at_call 84; refine (area_any A L.length c L _ (HLW.out.ext (HE.out.trans (by repeat (first | exact Ext.refl _ | refine Ext.alloc ?_ _ | assumption | refine Ext.over ?_ _ | refine Ext.drew ?_ | refine Ext.drewN ?_ _)))) rfl hx).over.mono ?_; rintro e w' ⟨rfl, xw, rfl⟩)
      go_ret
      refine ⟨by rw [HV.out]; rfl, HX.out.trans (by repeat (first | exact Ext.refl _ | refine Ext.alloc ?_ _ | assumption | refine Ext.over ?_ _ | refine Ext.drew ?_ | refine Ext.drewN ?_ _))⟩
end Go.Proofs.Ytkifapcegiajiaa
