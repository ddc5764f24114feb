/- Walks: the reference's RoomOk. Conditions: at most 1048577 corners. -/
import Derived.Test.YtkifapcegiajiaaRoomI
import Derived.Test.YtkifapcegiajiaaHer4
namespace Go.Proofs.Ytkifapcegiajiaa
open Go.RowKit
set_option linter.unusedVariables false

theorem below_again {N : Nat} {w : World} (h : N ≤ w.heap.size) (o o' : Obj) : Below N (w.alloc o) (w.alloc o') :=
  ⟨rfl, rfl, rfl, by simp, fun k hk => ((Below.alloc (Below.refl N w) h o').block k hk).trans ((Below.alloc (Below.refl N w) h o).block k hk).symm⟩
set_option maxRecDepth 100000 in
theorem double_any (A : Option Addr) (n c : Nat) (L : List T2) (w : World) (hl : Row w A (L.flatMap T2.v)) (hn : L.length = n) (hx : n ≤ 1048577) : Gives Try.prog 78 #[.slice A n c] w (.int .i64 (dblS L n)) := by
  subst hn
  have HL := hid hl
  clear hl
  (unfold Gives; go_enter Try.func78, Try.ntmps78)
  go_wp2_with fail
  go_loopw [3, 4] (fun sv kv wr => ∃ (k : Nat) (z : Int), k ≤ L.length ∧ kv = .int .i64 ↑k ∧ sv = .int .i64 z ∧ dblS L k = z ∧ Ext w wr) (fun _ kv _ => L.length - (intOf kv).toNat)
  case atStart => exact ⟨0, 0, by omega, rfl, rfl, rfl, by repeat (first | exact Ext.refl _ | refine Ext.alloc ?_ _ | assumption | refine Ext.over ?_ _ | refine Ext.drew ?_ | refine Ext.drewN ?_ _)⟩
  case round =>
    obtain ⟨k, z, hkl, rfl, rfl, hz, he⟩ := hrel
    have HE := hid he
    have HZ := hid hz
    clear he hz
    by_cases hlt : k < L.length
    · have hnl := nx_lt hlt
      have hmod := nx_mod hlt
      obtain ⟨b, off, rfl, hc⟩ := (HL.out.ext HE.out).t2 hlt
      obtain ⟨c1, c2⟩ := hc k hlt
      obtain ⟨d1, d2⟩ := hc _ hnl
      rw [show at2 L (nx L.length k) = nxt L k from rfl] at d1 d2
      clear hc
      have HD := hid (show dblS L (k + 1) = wrap64 (wrap64 (z + wrap64 ((at2 L k).a * (nxt L k).b)) - wrap64 ((at2 L k).b * (nxt L k).a)) by rw [← HZ.out]; rfl)
      generalize nx L.length k = m at hnl hmod d1 d2
      generalize nxt L k = q at HD d1 d2
      generalize at2 L k = a at HD c1 c2
      have hkt : (k : Int) < L.length := by omega
      go_wp2_with fail
      (refine wp_region_calm (by kernel_rfl) (by kernel_rfl) ?_; (repeat (go_big_quiet_step (fail))); refine wpQuiet_nil ?_; rintro w1 ⟨x1, rfl⟩)
      go_wp2_with fail
      go_roundw
      case rel => exact ⟨k + 1, _, by omega, by go_num, rfl, HD.out, HE.out.trans (by repeat (first | exact Ext.refl _ | refine Ext.alloc ?_ _ | assumption | refine Ext.over ?_ _ | refine Ext.drew ?_ | refine Ext.drewN ?_ _))⟩
      case measure => simp [intOf]; omega
    · obtain rfl : k = L.length := by omega
      go_wp2_with fail
      go_ret
      exact ⟨by rw [HZ.out]; rfl, HE.out⟩
theorem roomS_len {L : List T2} (h : lenOk L = false) : roomS L = false := by unfold roomS; rw [h]; rfl
theorem roomS_pok {L : List T2} (h : poks L = false) : roomS L = false := by unfold roomS; rw [h]; simp
theorem roomS_row {L : List T2} {i : Nat} (hi : i < L.length) (h : rowS L i = false) : roomS L = false := by unfold roomS; rw [allN_false hi h]; simp
theorem rowS_bend {L : List T2} {i : Nat} (h : bend L i = true) : rowS L i = false := by unfold rowS; rw [h]; rfl
theorem rowS_pair {L : List T2} {i k : Nat} (hk : k < L.length) (h : pairS L i k = false) : rowS L i = false := by unfold rowS; rw [allN_false hk h]; simp
set_option maxHeartbeats 3200000 in
set_option maxRecDepth 100000 in
theorem sRoomOk_any (A : Option Addr) (n c : Nat) (L : List T2) (w : World) (hl : Row w A (L.flatMap T2.v)) (hn : L.length = n) (hx : n ≤ 1048577) : Gives Try.prog 45 #[.agg #[.slice A n c]] w (.bool (roomS L)) := by
  subst hn
  have HL := hid hl
  clear hl
  cases h1 : lenOk L
  · have HC := hid (roomS_len h1)
    unfold lenOk at h1
    (unfold Gives; go_enter Try.func45, Try.ntmps45)
    go_wp2_with (go_at_call 74; refine (gives_b h1 (l01In_any _ _ _ _)).over.mono ?_; rintro e w' ⟨rfl, xw, rfl⟩)
    go_ret
    refine ⟨by rw [HC.out]; rfl, ?_⟩
    repeat (first | exact Ext.refl _ | refine Ext.alloc ?_ _ | assumption | refine Ext.over ?_ _ | refine Ext.drew ?_ | refine Ext.drewN ?_ _)
  have hb : 3 ≤ L.length ∧ L.length ≤ 10 := by unfold lenOk at h1; rw [btw_iff] at h1; omega
  obtain ⟨hb3, hb10⟩ := hb
  have HLN := hid h1
  unfold lenOk at h1
  (unfold Gives; go_enter Try.func45, Try.ntmps45)
  go_wp2_with (go_at_call 74; refine (gives_b h1 (l01In_any _ _ _ _)).over.mono ?_; rintro e w' ⟨rfl, xw, rfl⟩)
  obtain ⟨w1, hw1⟩ : ∃ w1, w1 = ovr (w.alloc (.cells #[.slice A L.length c] 33)) xw := ⟨_, rfl⟩
  have H1 := hid (show Ext w w1 by rw [hw1]; repeat (first | exact Ext.refl _ | refine Ext.alloc ?_ _ | assumption | refine Ext.over ?_ _ | refine Ext.drew ?_ | refine Ext.drewN ?_ _))
  have b0 : w1.cell? ⟨w.heap.size, 0, none⟩ = some (.slice A L.length c) := by rw [hw1]; go_simp
  have HLW := hid (HL.out.ext H1.out)
  rw [← hw1]
  generalize w.heap.size = gh at b0 ⊢
  clear hw1 HL
  go_loopw [4] (fun iv wr => ∃ (i : Nat), i ≤ L.length ∧ iv = .int .i64 ↑i ∧ (∀ j, j < i → pokAt L j = true) ∧ Ext w1 wr) (fun iv _ => L.length - (intOf iv).toNat)
  case atStart => exact ⟨0, by omega, rfl, by omega, Ext.refl _⟩
  case round =>
    obtain ⟨i, hi, rfl, hpk, he⟩ := hrel
    have HP := hid hpk
    have HE := hid he
    have q0 := old_cell he b0
    have HX := hid (H1.out.trans he)
    clear hpk he
    by_cases hlt : i < L.length
    · obtain ⟨b, off, rfl, hc⟩ := (HLW.out.ext HE.out).t2 hlt
      obtain ⟨c1, c2⟩ := hc i hlt
      clear hc
      cases hf : pok (at2 L i).a (at2 L i).b
      · have HV := hid (roomS_pok (L := L) (by unfold poks; exact allN_false hlt hf))
        go_wp2_with (go_at_call 75; refine (gives_b hf (sPointOk_any _ _ _)).over.mono ?_; rintro e w' ⟨rfl, xw, rfl⟩)
        go_ret
        exact ⟨by rw [HV.out]; rfl, HX.out.trans (by repeat (first | exact Ext.refl _ | refine Ext.alloc ?_ _ | assumption | refine Ext.over ?_ _ | refine Ext.drew ?_ | refine Ext.drewN ?_ _))⟩
      · go_wp2_with (go_at_call 75; refine (gives_b hf (sPointOk_any _ _ _)).over.mono ?_; rintro e w' ⟨rfl, xw, rfl⟩)
        go_roundw
        case rel => exact ⟨i + 1, by omega, by go_num, lt_succ_all HP.out hf, HE.out.trans (by repeat (first | exact Ext.refl _ | refine Ext.alloc ?_ _ | assumption | refine Ext.over ?_ _ | refine Ext.drew ?_ | refine Ext.drewN ?_ _))⟩
        case measure => simp [intOf]; omega
    obtain rfl : i = L.length := by omega
    have HPK := hid (show poks L = true from allN_true HP.out)
    have HC := hid (show roomS L = (allN L.length (rowS L) && decide (0 < dblS L L.length)) by unfold roomS; rw [HLN.out, HPK.out]; rfl)
    have HLX := hid (HLW.out.ext HE.out)
    clear HP HLW b0 HE
    rename World => wp
    go_wp2_with fail
    go_loopw [5] (fun iv wr => ∃ (i : Nat), i ≤ L.length ∧ iv = .int .i64 ↑i ∧ (∀ j, j < i → rowS L j = true) ∧ Ext wp wr) (fun iv _ => L.length - (intOf iv).toNat)
    case atStart => exact ⟨0, by omega, rfl, by omega, Ext.refl _⟩
    case round =>
      obtain ⟨i, hi, rfl, hrow, he⟩ := hrel
      have HR := hid hrow
      have HE := hid he
      have v0 := old_cell he q0
      have HXX := hid (HX.out.trans he)
      clear hrow he
      by_cases hlt : i < L.length
      · have hnl := nx_lt hlt
        have hmod := nx_mod hlt
        have hn2 := nx2_lt hlt
        have hmod2 := nx2_mod hlt
        obtain ⟨b, off, hA, hc⟩ := (HLX.out.ext HE.out).t2 hlt
        obtain ⟨c1, c2⟩ := hc i hlt
        obtain ⟨c3, c4⟩ := hc _ hnl
        rw [show at2 L (nx L.length i) = nxt L i from rfl] at c3 c4
        obtain ⟨d1, d2⟩ := hc _ hn2
        have hz0 : ¬ L = [] := fun e => by rw [e] at hlt; simp at hlt
        have hwr : IntKind.i64.wrap ((i : Int) + 2) = (i : Int) + 2 := IntWalk.i64_in _ (by omega)
        have hwr1 : IntKind.i64.wrap ((i : Int) + 1) = (i : Int) + 1 := IntWalk.i64_in _ (by omega)
        have HBE := hid (show bend L i = (turnP (at2 L i) (nxt L i) (at2 L (nx2 L.length i)) == 0) from rfl)
        have HMA := hid (show ∀ k, meetA L i k = meetP (at2 L i) (nxt L i) (at2 L k) (nxt L k) from fun k => rfl)
        have HCA := hid hc
        obtain ⟨m1, hm1⟩ : ∃ m1, m1 = nx L.length i := ⟨_, rfl⟩
        have HM1 := hid hm1
        rw [← hm1] at hnl hmod c3 c4
        subst hA
        generalize nx2 L.length i = m at hn2 hmod2 d1 d2 HBE
        generalize nxt L i = q at HBE HMA c3 c4
        generalize at2 L i = a at HBE HMA c1 c2
        generalize at2 L m = e at HBE d1 d2
        clear hc hm1
        have hmi : (m : Int) < L.length := by omega
        have hmi1 : (m1 : Int) < L.length := by omega
        go_wp2_with fail
        have hs0 := (fresh_cells (w1 := wr) (cs := #[.int .i64 a.a, .int .i64 a.b]) (t := 35) (Ext.refl _) (j := 0) rfl).1
        have hs1 := (fresh_cells (w1 := wr) (cs := #[.int .i64 a.a, .int .i64 a.b]) (t := 35) (Ext.refl _) (j := 1) rfl).1
        refine wp_region_x [.q 0, .q 1, .q 2, .q 3, .q 4, .q 5, .q 6, .q 7, .u 8, .u 9] (by kernel_rfl) (by kernel_rfl) (fun w2 e2 => ?_)
        have E2 := hid (Ext.trans (show Ext wr _ by repeat (first | exact Ext.refl _ | refine Ext.alloc ?_ _ | assumption | refine Ext.over ?_ _ | refine Ext.drew ?_ | refine Ext.drewN ?_ _)) e2)
        have y0 := old_cell e2 hs0
        have y1 := old_cell e2 hs1
        have v0 := old_cell E2.out v0
        have c3 := old_cell E2.out c3
        have c4 := old_cell E2.out c4
        have d1 := old_cell E2.out d1
        have d2 := old_cell E2.out d2
        generalize wr.heap.size = gw at y0 y1 ⊢
        clear e2 hs0 hs1 c1 c2
        simp only [pick, List.getElem?_cons_succ, List.getElem?_cons_zero]
        repeat (refine wpZ_q (fun K hK => ?_); go_simp; refine hK _ ?_; clear hK K)
        refine wpZ_u ?_
        refine stepH_of (fun K hK => ?_)
        go_simp
        refine hK _ _ (Below.alloc (Below.refl _ _) (Nat.le_refl _) _) ?_; clear hK K
        refine wpZ_u ?_
        refine stepH_of (fun K hK => ?_)
        go_simp
        refine hK _ _ (below_again (Nat.le_refl _) _ _) ?_; clear hK K
        refine wpZ_nil ?_
        obtain ⟨w3, hw3⟩ : ∃ w3, w3 = w2.alloc (.cells #[.int .i64 q.a, .int .i64 q.b] 35) := ⟨_, rfl⟩
        have e3 : Ext w2 w3 := by rw [hw3]; repeat (first | exact Ext.refl _ | refine Ext.alloc ?_ _ | assumption | refine Ext.over ?_ _ | refine Ext.drew ?_ | refine Ext.drewN ?_ _)
        have E3 := hid (E2.out.trans e3)
        have s0 : w3.cell? ⟨w2.heap.size, 0, none⟩ = some (.int .i64 q.a) := by rw [hw3]; go_simp
        have s1 : w3.cell? ⟨w2.heap.size, 1, none⟩ = some (.int .i64 q.b) := by rw [hw3]; go_simp
        have y0 := old_cell e3 y0
        have y1 := old_cell e3 y1
        have v0 := old_cell e3 v0
        have d1 := old_cell e3 d1
        have d2 := old_cell e3 d2
        rw [← hw3]
        generalize w2.heap.size = gq at s0 s1 ⊢
        clear hw3 e3 E2 c3 c4
        cases hbe : bend L i
        rotate_left
        · have hbt : (turnW a.a a.b q.a q.b e.a e.b == 0) = true := by have := HBE.out; rw [hbe] at this; exact this.symm
          have HV := hid (HC.out.trans (show _ = false by rw [allN_false hlt (rowS_bend hbe)]; rfl))
          go_wp2_with fail
          (refine wp_region_calm (by kernel_rfl) (by kernel_rfl) ?_; (repeat (go_big_quiet_step ((go_at_call 76; exact (sturn_any _ _ _ _ _ _ _).calm)))); refine wpQuiet_nil ?_; rintro w1 ⟨x1, rfl⟩)
          go_wp2_with fail
          go_ret
          refine ⟨by rw [HV.out]; rfl, HXX.out.trans (E3.out.trans (by repeat (first | exact Ext.refl _ | refine Ext.alloc ?_ _ | assumption | refine Ext.over ?_ _ | refine Ext.drew ?_ | refine Ext.drewN ?_ _)))⟩
        have hbt : (turnW a.a a.b q.a q.b e.a e.b == 0) = false := by have := HBE.out; rw [hbe] at this; exact this.symm
        go_wp2_with fail
        (refine wp_region_calm (by kernel_rfl) (by kernel_rfl) ?_; (repeat (go_big_quiet_step ((go_at_call 76; exact (sturn_any _ _ _ _ _ _ _).calm)))); refine wpQuiet_nil ?_; rintro w1 ⟨x1, rfl⟩)
        go_wp2_with fail
        obtain ⟨wy, hwy⟩ : ∃ wy, wy = ovr w3 x1 := ⟨_, rfl⟩
        have hey0 : Ext w3 wy := by rw [hwy]; repeat (first | exact Ext.refl _ | refine Ext.alloc ?_ _ | assumption | refine Ext.over ?_ _ | refine Ext.drew ?_ | refine Ext.drewN ?_ _)
        have s0 := old_cell hey0 s0
        have s1 := old_cell hey0 s1
        have y0 := old_cell hey0 y0
        have y1 := old_cell hey0 y1
        have v0 := old_cell hey0 v0
        have HEY := hid (E3.out.trans hey0)
        rw [← hwy]
        clear hwy hey0 d1 d2
        go_loopw [8] (fun kv wz => ∃ (k : Nat), k ≤ L.length ∧ kv = .int .i64 ↑k ∧ (∀ j, j < k → pairS L i j = true) ∧ Ext wy wz) (fun kv _ => L.length - (intOf kv).toNat)
        case atStart => exact ⟨0, by omega, rfl, by omega, by repeat (first | exact Ext.refl _ | refine Ext.alloc ?_ _ | assumption | refine Ext.over ?_ _ | refine Ext.drew ?_ | refine Ext.drewN ?_ _)⟩
        case round =>
          obtain ⟨k, hkl, rfl, hpr, he⟩ := hrel
          have HP := hid hpr
          have HEZ := hid he
          have HXZ := hid (HXX.out.trans (HEY.out.trans he))
          have s0 := old_cell he s0
          have s1 := old_cell he s1
          have y0 := old_cell he y0
          have y1 := old_cell he y1
          have u0 := old_cell he v0
          clear hpr he
          by_cases hkt : k < L.length
          · have hmodk := nx_mod hkt
            have hnk := nx_lt hkt
            have hwk : IntKind.i64.wrap ((k : Int) + 1) = (k : Int) + 1 := IntWalk.i64_in _ (by omega)
            obtain ⟨c1, c2⟩ := HCA.out k hkt
            obtain ⟨c3, c4⟩ := HCA.out _ hnk
            rw [show at2 L (nx L.length k) = nxt L k from rfl] at c3 c4
            have c1 := old_cell (HEY.out.trans HEZ.out) c1
            have c2 := old_cell (HEY.out.trans HEZ.out) c2
            have c3 := old_cell (HEY.out.trans HEZ.out) c3
            have c4 := old_cell (HEY.out.trans HEZ.out) c4
            have HM := hid (HMA.out k)
            have HPI := hid (show pairS L i k = ((k == i) || (nx L.length k == i) || (m1 == k) || !meetA L i k) by unfold pairS; rw [← HM1.out])
            generalize nxt L k = s at c3 c4 HM
            generalize at2 L k = r at c1 c2 HM
            generalize nx L.length k = mk at hmodk hnk HPI c3 c4
            have hkt' : (k : Int) < L.length := by omega
            have hmk' : (mk : Int) < L.length := by omega
            by_cases z1 : k = i
            · have z1' : ((k : Int) == (i : Int)) = true := by rw [beq_iff_eq]; omega
              have HN := hid (lt_succ_all HP.out (show pairS L i k = true by rw [HPI.out, beq_iff_eq.2 z1]; rfl))
              go_wp2_with fail
              go_roundw
              case rel => exact ⟨k + 1, by omega, by go_num, HN.out, HEZ.out.trans (by repeat (first | exact Ext.refl _ | refine Ext.alloc ?_ _ | assumption | refine Ext.over ?_ _ | refine Ext.drew ?_ | refine Ext.drewN ?_ _))⟩
              case measure => simp [intOf]; omega
            have z1' : ((k : Int) == (i : Int)) = false := by rw [beq_eq_false_iff_ne]; omega
            by_cases z2 : mk = i
            · have z2' : ((mk : Int) == (i : Int)) = true := by rw [beq_iff_eq]; omega
              have HN := hid (lt_succ_all HP.out (show pairS L i k = true by rw [HPI.out, beq_iff_eq.2 z2]; simp))
              go_wp2_with fail
              go_roundw
              case rel => exact ⟨k + 1, by omega, by go_num, HN.out, HEZ.out.trans (by repeat (first | exact Ext.refl _ | refine Ext.alloc ?_ _ | assumption | refine Ext.over ?_ _ | refine Ext.drew ?_ | refine Ext.drewN ?_ _))⟩
              case measure => simp [intOf]; omega
            have z2' : ((mk : Int) == (i : Int)) = false := by rw [beq_eq_false_iff_ne]; omega
            by_cases z3 : m1 = k
            · have z3' : ((m1 : Int) == (k : Int)) = true := by rw [beq_iff_eq]; omega
              have HN := hid (lt_succ_all HP.out (show pairS L i k = true by rw [HPI.out, beq_iff_eq.2 z3]; simp))
              go_wp2_with fail
              go_roundw
              case rel => exact ⟨k + 1, by omega, by go_num, HN.out, HEZ.out.trans (by repeat (first | exact Ext.refl _ | refine Ext.alloc ?_ _ | assumption | refine Ext.over ?_ _ | refine Ext.drew ?_ | refine Ext.drewN ?_ _))⟩
              case measure => simp [intOf]; omega
            have z3' : ((m1 : Int) == (k : Int)) = false := by rw [beq_eq_false_iff_ne]; omega
            have HPJ := hid (show pairS L i k = !meetP a q r s by rw [HPI.out, beq_eq_false_iff_ne.2 z1, beq_eq_false_iff_ne.2 z2, beq_eq_false_iff_ne.2 z3, HM.out]; rfl)
            cases hmt : meetP a q r s
            · have HN := hid (lt_succ_all HP.out (show pairS L i k = true by rw [HPJ.out, hmt]; rfl))
              go_wp2_with fail
              (refine wp_region_calm (by kernel_rfl) (by kernel_rfl) ?_; (repeat (go_big_quiet_step ((go_at_call 77; exact (gives_b hmt (sDoMeet_any a q r s _)).calm)))); refine wpQuiet_nil ?_; rintro w1 ⟨x1, rfl⟩)
              go_wp2_with fail
              go_roundw
              case rel => exact ⟨k + 1, by omega, by go_num, HN.out, HEZ.out.trans (by repeat (first | exact Ext.refl _ | refine Ext.alloc ?_ _ | assumption | refine Ext.over ?_ _ | refine Ext.drew ?_ | refine Ext.drewN ?_ _))⟩
              case measure => simp [intOf]; omega
            · have HV := hid (HC.out.trans (show _ = false by rw [allN_false hlt (rowS_pair hkt (by rw [HPJ.out, hmt]; rfl))]; rfl))
              go_wp2_with fail
              (refine wp_region_calm (by kernel_rfl) (by kernel_rfl) ?_; (repeat (go_big_quiet_step ((go_at_call 77; exact (gives_b hmt (sDoMeet_any a q r s _)).calm)))); refine wpQuiet_nil ?_; rintro w1 ⟨x1, rfl⟩)
              go_wp2_with fail
              go_ret
              refine ⟨by rw [HV.out]; rfl, HXZ.out.trans (by repeat (first | exact Ext.refl _ | refine Ext.alloc ?_ _ | assumption | refine Ext.over ?_ _ | refine Ext.drew ?_ | refine Ext.drewN ?_ _))⟩
          · obtain rfl : k = L.length := by omega
            have HN := hid (show rowS L i = true by unfold rowS; rw [hbe, allN_true HP.out]; rfl)
            go_wp2_with fail
            go_roundw
            case rel => exact ⟨i + 1, by omega, by go_num, lt_succ_all HR.out HN.out, HE.out.trans (HEY.out.trans (HEZ.out.trans (by repeat (first | exact Ext.refl _ | refine Ext.alloc ?_ _ | assumption | refine Ext.over ?_ _ | refine Ext.drew ?_ | refine Ext.drewN ?_ _))))⟩
            case measure => simp [intOf]; omega
      · obtain rfl : i = L.length := by omega
        have HV := hid (HC.out.trans (show _ = decide (0 < dblS L L.length) by rw [allN_true HR.out]; rfl))
        go_wp2_with (go_at_call 78; refine (double_any A L.length c L _ (HLX.out.ext (HE.out.trans (by repeat (first | exact Ext.refl _ | refine Ext.alloc ?_ _ | assumption | refine Ext.over ?_ _ | refine Ext.drew ?_ | refine Ext.drewN ?_ _)))) rfl hx).over.mono ?_; rintro e w' ⟨rfl, xw, rfl⟩)
        go_ret
        refine ⟨by rw [HV.out]; rfl, HXX.out.trans (by repeat (first | exact Ext.refl _ | refine Ext.alloc ?_ _ | assumption | refine Ext.over ?_ _ | refine Ext.drew ?_ | refine Ext.drewN ?_ _))⟩
end Go.Proofs.Ytkifapcegiajiaa
