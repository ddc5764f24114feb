/- Walks: the reference's fewest pieces between two points. Conditions: a valid room. -/
import Derived.Test.YtkifapcegiajiaaPieceS
namespace Go.Proofs.Ytkifapcegiajiaa
open Go.RowKit
set_option linter.unusedVariables false

theorem distF_bound (L F : List T2) (q : T2) (v : Nat) : -1 ≤ distF L F q v ∧ distF L F q v ≤ F.length := by
  unfold distF
  split
  · omega
  · unfold distG dist
    cases hs : seenIn (tree (F.length + 1) (adjG L F q) F.length) v
    · rw [distOf_none hs]; omega
    · obtain ⟨x, hx, rfl⟩ := seenIn_iff.1 hs
      have h1 := depth_lt (n := F.length + 1) (adj := adjG L F q) (a := F.length) (k := F.length + 1) (by omega) hx
      rw [distOf_mem (L := tree (F.length + 1) (adjG L F q) F.length) (bfs_inv (adj := adjG L F q) (by omega) _).nodup hx]
      omega
theorem bestD_bound {D : Nat → Int} {ok : Nat → Bool} {m : Int} (h : ∀ k, -1 ≤ D k ∧ D k ≤ m) (hm : 0 ≤ m) : ∀ n, -1 ≤ bestD D ok n ∧ bestD D ok n ≤ m + 1
  | 0 => by simp only [bestD]; omega
  | n + 1 => by
    have ih := bestD_bound (ok := ok) h hm n
    have := h n
    simp only [bestD]
    split
    · rename_i hh
      simp only [Bool.and_eq_true, decide_eq_true_eq] at hh
      omega
    · omega
theorem bestD_yes {D : Nat → Int} {ok : Nat → Bool} {k : Nat} (h0 : 0 ≤ D k) (h1 : ok k = true) (h2 : bestD D ok k < 0 ∨ D k + 1 < bestD D ok k) : bestD D ok (k + 1) = D k + 1 := by
  simp only [bestD]
  rw [if_pos]
  simp only [Bool.and_eq_true, Bool.or_eq_true, decide_eq_true_eq]
  exact ⟨⟨h0, h1⟩, h2⟩
theorem bestD_no {D : Nat → Int} {ok : Nat → Bool} {k : Nat} (h : ¬ (0 ≤ D k ∧ ok k = true ∧ (bestD D ok k < 0 ∨ D k + 1 < bestD D ok k))) : bestD D ok (k + 1) = bestD D ok k := by
  simp only [bestD]
  rw [if_neg]
  simp only [Bool.and_eq_true, Bool.or_eq_true, decide_eq_true_eq]
  exact fun hh => h ⟨hh.1.1, hh.1.2, hh.2⟩
set_option maxHeartbeats 1600000 in
set_option maxRecDepth 100000 in
theorem l21Best_any (A : Option Addr) (n c : Nat) (L : List T2) (p q : T2) (w : World) (hl : Row w A (L.flatMap T2.v)) (hn : L.length = n) (hro : roomS L = true) : Gives Try.prog 34 #[.slice A n c, ptV p, ptV q] w (.int .i64 (bestS L q p)) := by
  have HSE := hid (fun a b w' (h : Row w' A (L.flatMap T2.v)) => l08Sees_any A n c L a b w' h hn hro)
  have HPC := hid (fun w' (h : Row w' A (L.flatMap T2.v)) => l21Pieces_any A n c L q w' h hn hro)
  have hn10 : n ≤ 10 := by have := (roomP_of hro).hi; omega
  have HL := hid hl
  clear hl
  subst hn
  obtain ⟨pa, pb⟩ := p
  obtain ⟨qa, qb⟩ := q
  unfold ptV at *
  by_cases heq : pa = qa ∧ pb = qb
  · have HV := hid (show bestS L ⟨qa, qb⟩ ⟨pa, pb⟩ = 0 by unfold bestS; rw [heq.1, heq.2, show eqP (⟨qa, qb⟩ : T2) ⟨qa, qb⟩ = true from eqP_iff.2 rfl]; rfl)
    obtain ⟨h1, h2⟩ := heq
    have e1 : (pa == qa) = true := by simpa using h1
    have e2 : (pb == qb) = true := by simpa using h2
    replace h1 := hid h1
    replace h2 := hid h2
    (unfold Gives; go_enter Try.func34, Try.ntmps34)
    go_wp2_with fail
    go_ret
    exact ⟨by rw [HV.out]; rfl, by repeat (first | exact Ext.refl _ | refine Ext.alloc ?_ _ | assumption | refine Ext.over ?_ _ | refine Ext.drew ?_ | refine Ext.drewN ?_ _)⟩
  have hne : eqP (⟨pa, pb⟩ : T2) ⟨qa, qb⟩ = false := by
    cases h : eqP (⟨pa, pb⟩ : T2) ⟨qa, qb⟩
    · rfl
    · have := eqP_iff.1 h; simp only [T2.mk.injEq] at this; exact absurd this heq
  cases hse : seesS L ⟨pa, pb⟩ ⟨qa, qb⟩
  case true =>
    have HV := hid (show bestS L ⟨qa, qb⟩ ⟨pa, pb⟩ = 1 by unfold bestS; rw [hne, hse]; rfl)
    have HS := hid (fun w' (h : Row w' A (L.flatMap T2.v)) => gives_b hse (HSE.out ⟨pa, pb⟩ ⟨qa, qb⟩ w' h))
    by_cases hxa : pa = qa
    · have e1 : (pa == qa) = true := by simpa using hxa
      have e2 : (pb == qb) = false := by rw [beq_eq_false_iff_ne]; exact fun h => heq ⟨hxa, h⟩
      clear heq hne hse
      replace hxa := hid hxa
      (unfold Gives; go_enter Try.func34, Try.ntmps34)
      go_wp2_with (go_at_call 35; refine (HS.out _ (HL.out.ext (by repeat (first | exact Ext.refl _ | refine Ext.alloc ?_ _ | assumption | refine Ext.over ?_ _ | refine Ext.drew ?_ | refine Ext.drewN ?_ _)))).over.mono ?_; rintro e w' ⟨rfl, xw, rfl⟩)
      go_ret
      exact ⟨by rw [HV.out]; rfl, by repeat (first | exact Ext.refl _ | refine Ext.alloc ?_ _ | assumption | refine Ext.over ?_ _ | refine Ext.drew ?_ | refine Ext.drewN ?_ _)⟩
    · have e1 : (pa == qa) = false := by rw [beq_eq_false_iff_ne]; exact hxa
      clear heq hne hse
      replace hxa := hid hxa
      (unfold Gives; go_enter Try.func34, Try.ntmps34)
      go_wp2_with (go_at_call 35; refine (HS.out _ (HL.out.ext (by repeat (first | exact Ext.refl _ | refine Ext.alloc ?_ _ | assumption | refine Ext.over ?_ _ | refine Ext.drew ?_ | refine Ext.drewN ?_ _)))).over.mono ?_; rintro e w' ⟨rfl, xw, rfl⟩)
      go_ret
      exact ⟨by rw [HV.out]; rfl, by repeat (first | exact Ext.refl _ | refine Ext.alloc ?_ _ | assumption | refine Ext.over ?_ _ | refine Ext.drew ?_ | refine Ext.drewN ?_ _)⟩
  case false =>
    have HV := hid (show bestS L ⟨qa, qb⟩ ⟨pa, pb⟩ = bestD (distF L L ⟨qa, qb⟩) (seeC L ⟨pa, pb⟩) L.length by unfold bestS; rw [hne, hse]; rfl)
    have HS := hid (fun w' (h : Row w' A (L.flatMap T2.v)) => gives_b hse (HSE.out ⟨pa, pb⟩ ⟨qa, qb⟩ w' h))
    have HDB := hid (fun v => distF_bound L L ⟨qa, qb⟩ v)
    have HBB := hid (bestD_bound (ok := seeC L ⟨pa, pb⟩) (m := L.length) (fun k => distF_bound L L ⟨qa, qb⟩ k) (by omega))
    have hcase : (pa == qa) = false ∨ ((pa == qa) = true ∧ (pb == qb) = false) := by
      by_cases hxa : pa = qa
      · exact .inr ⟨by simpa using hxa, by rw [beq_eq_false_iff_ne]; exact fun h => heq ⟨hxa, h⟩⟩
      · exact .inl (by rw [beq_eq_false_iff_ne]; exact hxa)
    obtain ⟨D, hD⟩ : ∃ D, D = distF L L ⟨qa, qb⟩ := ⟨_, rfl⟩
    obtain ⟨ok, hok⟩ : ∃ ok, ok = seeC L ⟨pa, pb⟩ := ⟨_, rfl⟩
    have HOK := hid (show ∀ k, ok k = seesS L ⟨pa, pb⟩ (at2 L k) from fun k => by rw [hok]; rfl)
    rw [← hD, ← hok] at HV HBB
    rw [← hD] at HDB HPC
    clear hD hok heq hne hse
    rcases hcase with e1 | ⟨e1, e2⟩
    all_goals
      (unfold Gives; go_enter Try.func34, Try.ntmps34)
      go_wp2_with (go_at_call 35; refine (HS.out _ (HL.out.ext (by repeat (first | exact Ext.refl _ | refine Ext.alloc ?_ _ | assumption | refine Ext.over ?_ _ | refine Ext.drew ?_ | refine Ext.drewN ?_ _)))).over.mono ?_; rintro e w' ⟨rfl, xw, rfl⟩)
      clear e1
      try clear e2
      obtain ⟨wa, hwa⟩ : ∃ wa, wa = ovr ((w.alloc (.cells #[.int .i64 pa, .int .i64 pb] 35)).alloc (.cells #[.int .i64 qa, .int .i64 qb] 35)) xw := ⟨_, rfl⟩
      have EA : Ext w wa := by rw [hwa]; repeat (first | exact Ext.refl _ | refine Ext.alloc ?_ _ | assumption | refine Ext.over ?_ _ | refine Ext.drew ?_ | refine Ext.drewN ?_ _)
      have p0 : wa.cell? ⟨w.heap.size, 0, none⟩ = some (.int .i64 pa) := by rw [hwa]; exact old_cell (w1 := w.alloc (.cells #[.int .i64 pa, .int .i64 pb] 35)) (by repeat (first | exact Ext.refl _ | refine Ext.alloc ?_ _ | assumption | refine Ext.over ?_ _ | refine Ext.drew ?_ | refine Ext.drewN ?_ _)) (by go_simp)
      have p1 : wa.cell? ⟨w.heap.size, 1, none⟩ = some (.int .i64 pb) := by rw [hwa]; exact old_cell (w1 := w.alloc (.cells #[.int .i64 pa, .int .i64 pb] 35)) (by repeat (first | exact Ext.refl _ | refine Ext.alloc ?_ _ | assumption | refine Ext.over ?_ _ | refine Ext.drew ?_ | refine Ext.drewN ?_ _)) (by go_simp)
      refine (HPC.out _ (by rw [← hwa]; exact HL.out.ext EA)).mono ?_
      rw [← hwa]
      clear hwa
      rintro _ w2 ⟨gd, rfl, ho, he⟩
      have b0 := old_cell he p0
      have b1 := old_cell he p1
      have HE2 := hid (EA.trans he)
      have HO := hid ho
      have HSZ := hid (EA.size)
      clear ho he EA p0 p1 HS
      generalize w.heap.size = bp at b0 b1 ⊢
      go_wp2_with fail
      go_loopw [8, 9] (fun bv kv wr => ∃ (k : Nat), k ≤ L.length ∧ kv = .int .i64 ↑k ∧ bv = .int .i64 (bestD D ok k) ∧ Ext w2 wr) (fun _ kv _ => L.length - (intOf kv).toNat)
      case atStart => exact ⟨0, Nat.zero_le _, rfl, rfl, by repeat (first | exact Ext.refl _ | refine Ext.alloc ?_ _ | assumption | refine Ext.over ?_ _ | refine Ext.drew ?_ | refine Ext.drewN ?_ _)⟩
      case round =>
        obtain ⟨k, hk, rfl, rfl, he⟩ := hrel
        have HX := hid he
        have b0 := old_cell he b0
        have b1 := old_cell he b1
        by_cases hlt : k < L.length
        · have hkt : (k : Int) < L.length := by omega
          have hDk := HDB.out k
          have hBk := HBB.out k
          have c1 : wr.cell? ⟨gd, k, none⟩ = some (.int .i64 (D k)) := by
            refine old_cell he ?_
            rw [HO.out.cellAt k (by omega)]
            simp [hlt]
          have HRW := hid ((HL.out.ext HE2.out).ext he)
          obtain ⟨bk, off, hA, hc⟩ := HRW.out.t2 hlt
          obtain ⟨g0, g1⟩ := hc k hlt
          have HNO := hid (fun h => bestD_no (D := D) (ok := ok) (k := k) h)
          have HYS := hid (fun h0 h1 h2 => bestD_yes (D := D) (ok := ok) (k := k) h0 h1 h2)
          have HOKK := hid (HOK.out k)
          clear hc he
          subst hA
          generalize D k = dk at hDk c1 HNO HYS
          generalize hbb : bestD D ok k = bst at hBk HNO HYS ⊢
          clear hbb
          have hwr : IntKind.i64.wrap (dk + 1) = dk + 1 := IntWalk.i64_in _ (by omega)
          by_cases h0 : 0 ≤ dk
          · have h0d : decide (0 ≤ dk) = true := decide_eq_true h0
            cases hse : seesS L ⟨pa, pb⟩ (at2 L k)
            · have HN := hid (HNO.out (fun h => by have := h.2.1; rw [HOKK.out, hse] at this; cases this))
              go_wp2_with fail
              (refine wp_region_calm (by kernel_rfl) (by kernel_rfl) ?_; (repeat (go_big_quiet_step ((go_at_call 35; exact (gives_b hse (HSE.out ⟨pa, pb⟩ (at2 L k) _ (HRW.out.ext (by repeat (first | exact Ext.refl _ | refine Ext.alloc ?_ _ | assumption | refine Ext.over ?_ _ | refine Ext.drew ?_ | refine Ext.drewN ?_ _))))).calm)))); refine wpQuiet_nil ?_; rintro w1 ⟨x1, rfl⟩)
              go_wp2_with fail
              go_roundw
              case rel => exact ⟨k + 1, by omega, by go_num, by rw [HN.out], HX.out.trans (by repeat (first | exact Ext.refl _ | refine Ext.alloc ?_ _ | assumption | refine Ext.over ?_ _ | refine Ext.drew ?_ | refine Ext.drewN ?_ _))⟩
              case measure => simp [intOf]; omega
            · have hok : ok k = true := by rw [HOKK.out, hse]
              by_cases h1 : bst < 0
              · have h1d : decide (bst < 0) = true := decide_eq_true h1
                have HY := hid (HYS.out h0 hok (.inl h1))
                clear hok
                go_wp2_with fail
                (refine wp_region_calm (by kernel_rfl) (by kernel_rfl) ?_; (repeat (go_big_quiet_step ((go_at_call 35; exact (gives_b hse (HSE.out ⟨pa, pb⟩ (at2 L k) _ (HRW.out.ext (by repeat (first | exact Ext.refl _ | refine Ext.alloc ?_ _ | assumption | refine Ext.over ?_ _ | refine Ext.drew ?_ | refine Ext.drewN ?_ _))))).calm)))); refine wpQuiet_nil ?_; rintro w1 ⟨x1, rfl⟩)
                have d1 := old_cell (Ext.over (Ext.refl wr) x1) c1
                go_wp2_with fail
                go_roundw
                case rel => exact ⟨k + 1, by omega, by go_num, by rw [HY.out], HX.out.trans (by repeat (first | exact Ext.refl _ | refine Ext.alloc ?_ _ | assumption | refine Ext.over ?_ _ | refine Ext.drew ?_ | refine Ext.drewN ?_ _))⟩
                case measure => simp [intOf]; omega
              · have h1d : decide (bst < 0) = false := decide_eq_false h1
                by_cases h2 : dk + 1 < bst
                · have h2d : decide (dk + 1 < bst) = true := decide_eq_true h2
                  have HY := hid (HYS.out h0 hok (.inr h2))
                  clear hok
                  go_wp2_with fail
                  (refine wp_region_calm (by kernel_rfl) (by kernel_rfl) ?_; (repeat (go_big_quiet_step ((go_at_call 35; exact (gives_b hse (HSE.out ⟨pa, pb⟩ (at2 L k) _ (HRW.out.ext (by repeat (first | exact Ext.refl _ | refine Ext.alloc ?_ _ | assumption | refine Ext.over ?_ _ | refine Ext.drew ?_ | refine Ext.drewN ?_ _))))).calm)))); refine wpQuiet_nil ?_; rintro w1 ⟨x1, rfl⟩)
                  have d1 := old_cell (Ext.over (Ext.refl wr) x1) c1
                  go_wp2_with fail
                  go_roundw
                  case rel => exact ⟨k + 1, by omega, by go_num, by rw [HY.out], HX.out.trans (by repeat (first | exact Ext.refl _ | refine Ext.alloc ?_ _ | assumption | refine Ext.over ?_ _ | refine Ext.drew ?_ | refine Ext.drewN ?_ _))⟩
                  case measure => simp [intOf]; omega
                · have h2d : decide (dk + 1 < bst) = false := decide_eq_false h2
                  have HN := hid (HNO.out (fun h => by have := h.2.2; omega))
                  clear hok
                  go_wp2_with fail
                  (refine wp_region_calm (by kernel_rfl) (by kernel_rfl) ?_; (repeat (go_big_quiet_step ((go_at_call 35; exact (gives_b hse (HSE.out ⟨pa, pb⟩ (at2 L k) _ (HRW.out.ext (by repeat (first | exact Ext.refl _ | refine Ext.alloc ?_ _ | assumption | refine Ext.over ?_ _ | refine Ext.drew ?_ | refine Ext.drewN ?_ _))))).calm)))); refine wpQuiet_nil ?_; rintro w1 ⟨x1, rfl⟩)
                  go_wp2_with fail
                  go_roundw
                  case rel => exact ⟨k + 1, by omega, by go_num, by rw [HN.out], HX.out.trans (by repeat (first | exact Ext.refl _ | refine Ext.alloc ?_ _ | assumption | refine Ext.over ?_ _ | refine Ext.drew ?_ | refine Ext.drewN ?_ _))⟩
                  case measure => simp [intOf]; omega
          · have h0d : decide (0 ≤ dk) = false := decide_eq_false h0
            have HN := hid (HNO.out (fun h => h0 h.1))
            go_wp2_with fail
            (refine wp_region_calm (by kernel_rfl) (by kernel_rfl) ?_; (repeat (go_big_quiet_step (fail))); refine wpQuiet_nil ?_; rintro w1 ⟨x1, rfl⟩)
            go_wp2_with fail
            go_roundw
            case rel => exact ⟨k + 1, by omega, by go_num, by rw [HN.out], HX.out.trans (by repeat (first | exact Ext.refl _ | refine Ext.alloc ?_ _ | assumption | refine Ext.over ?_ _ | refine Ext.drew ?_ | refine Ext.drewN ?_ _))⟩
            case measure => simp [intOf]; omega
        · obtain rfl : k = L.length := by omega
          go_wp2_with fail
          go_ret
          exact ⟨by rw [HV.out]; rfl, HE2.out.trans (HX.out.trans (by repeat (first | exact Ext.refl _ | refine Ext.alloc ?_ _ | assumption | refine Ext.over ?_ _ | refine Ext.drew ?_ | refine Ext.drewN ?_ _)))⟩
end Go.Proofs.Ytkifapcegiajiaa
