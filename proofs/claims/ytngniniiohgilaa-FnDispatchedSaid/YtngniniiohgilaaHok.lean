/- Walks: a way between two halls; HouseOk. Conditions: sizes. -/
import Derived.Test.YtngniniiohgilaaShort
import Derived.Test.YtngniniiohgilaaDist
namespace Go.Proofs.Ytngniniiohgilaa
open Go.RowKit
set_option linter.unusedVariables false

def adjD (l : List T2) (i j : Nat) : Bool := hasD l i j
theorem adjD_symm (l : List T2) (i j : Nat) : adjD l i j = adjD l j i := hasD_symm _ _ _
theorem links_adj (l : List T2) (q h : Nat) : links l q h = idxs (fun i => adjD l i q) h := by
  unfold links adjD
  congr 1
  funext i
  exact hasD_symm _ _ _
theorem wayIn_any (h : Nat) (A : Option Addr) (n c : Nat) (l : List T2) (a b : Nat) (w : World) (hl : Row w A (l.flatMap T2.v)) (hn : l.length = n) (hx : n ≤ 12) (h7 : h ≤ 7) (hf : doorsOk h l = true) (ha : a < h) (hb : b < h) :
    Calls Try.prog 43 #[.agg #[.int .i64 h, .slice A n c], .int .i64 a, .int .i64 b] w fun en w' => Ext w w' ∧
      (dist h (adjD l) a b < 0 ∧ en = .returned (.slice none 0 0) ∨ 0 ≤ dist h (adjD l) a b ∧ ∃ A c, en = .returned (.slice A ((dist h (adjD l) a b).toNat + 1) c) ∧ w'.ownsRow w.heap.size 3 1 (.slice A ((dist h (adjD l) a b).toNat + 1) c) ((dist h (adjD l) a b).toNat + 1) ((wayB (tree h (adjD l) a) b (dist h (adjD l) a b).toNat).reverse.map (Value.int .i64))) := by
  obtain ⟨wb, hwb⟩ : ∃ wb, wb = w.alloc (.cells #[.int .i64 ↑h, .slice A n c] 26) := ⟨_, rfl⟩
  have hew : Ext w wb := by rw [hwb]; repeat (first | exact Ext.refl _ | refine Ext.alloc ?_ _ | assumption | refine Ext.over ?_ _ | refine Ext.drew ?_ | refine Ext.drewN ?_ _)
  have hb0 : wb.cell? ⟨w.heap.size, 0, none⟩ = some (.int .i64 ↑h) := by rw [hwb]; go_simp
  have hb1 : wb.cell? ⟨w.heap.size, 1, none⟩ = some (.slice A n c) := by rw [hwb]; go_simp
  have hs := shortest_any h a b (adjD l) w.heap.size wb ha hb h7 (fun q hq w' he => by
    rw [← links_adj]
    exact wayIn1_any h A n c l q w.heap.size w' (old_cell he hb0) (old_cell he hb1) (hl.ext (hew.trans he)) hn hx h7 hf)
  subst hwb
  clear hb0 hb1
  have HS := hid hs
  clear hs
  go_enter Try.func43, Try.ntmps43
  go_wp2_with fail
  refine HS.out.mono ?_
  rintro en w2 ⟨he, h1 | ⟨h1, A', c', rfl, ho⟩⟩
  · obtain ⟨h1, rfl⟩ := h1
    go_wp2_with fail
    go_ret
    exact ⟨hew.trans he, .inl ⟨h1, rfl⟩⟩
  · go_wp2_with fail
    go_ret
    exact ⟨hew.trans he, .inr ⟨h1, _, _, rfl, own_base ho (by simp)⟩⟩
def reach (l : List T2) (h : Nat) (k : Nat) : Bool := decide (0 ≤ dist h (adjD l) 0 k)
def houseOk (h : Int) (l : List T2) : Bool := form h l && allN h.toNat (reach l h.toNat)
theorem houseOk_no {h : Int} {l : List T2} (g : form h l = false) : houseOk h l = false := by unfold houseOk; rw [g]; rfl
theorem houseOk_yes {h : Nat} {l : List T2} (g : form h l = true) : houseOk h l = allN h (reach l h) := by unfold houseOk; rw [g, Int.toNat_natCast]; rfl
theorem form_bounds {h : Int} {l : List T2} (g : form h l = true) : doorsOk h l = true ∧ 1 ≤ h ∧ h ≤ 7 ∧ l.length ≤ 12 := by
  unfold form at g
  simp only [Bool.and_eq_true, decide_eq_true_eq] at g
  have := btw_iff.1 g.2.1
  exact ⟨g.1, this.1, this.2, g.2.2⟩
set_option maxHeartbeats 1600000 in
theorem sHouseOk_any (h : Int) (A : Option Addr) (n c : Nat) (l : List T2) (w : World) (hl : Row w A (l.flatMap T2.v)) (hn : l.length = n) (hx : n ≤ 1048577) :
    Gives Try.prog 64 #[.agg #[.int .i64 h, .slice A n c]] w (.bool (houseOk h l)) := by
  cases hf : form h l
  · have HN := hid (houseOk_no hf)
    (unfold Gives; go_enter Try.func64, Try.ntmps64)
    go_wp2_with (go_at_call 82; refine (gives_b hf (l23Form_any _ _ _ _ l _ (hl.ext (by repeat (first | exact Ext.refl _ | refine Ext.alloc ?_ _ | assumption | refine Ext.over ?_ _ | refine Ext.drew ?_ | refine Ext.drewN ?_ _))) hn hx)).over.mono ?_; rintro e w' ⟨rfl, xw, rfl⟩)
    go_ret
    exact ⟨by rw [HN.out]; rfl, by repeat (first | exact Ext.refl _ | refine Ext.alloc ?_ _ | assumption | refine Ext.over ?_ _ | refine Ext.drew ?_ | refine Ext.drewN ?_ _)⟩
  · obtain ⟨hd, h1, h7, h12⟩ := form_bounds hf
    obtain ⟨h, rfl⟩ : ∃ k : Nat, h = k := ⟨h.toNat, by omega⟩
    subst hn
    have HY := hid (houseOk_yes hf)
    clear hd
    (unfold Gives; go_enter Try.func64, Try.ntmps64)
    go_wp2_with (go_at_call 82; refine (gives_b hf (l23Form_any _ _ _ _ l _ (hl.ext (by repeat (first | exact Ext.refl _ | refine Ext.alloc ?_ _ | assumption | refine Ext.over ?_ _ | refine Ext.drew ?_ | refine Ext.drewN ?_ _))) rfl hx)).over.mono ?_; rintro e w' ⟨rfl, xw, rfl⟩)
    refine (l23Distances_any h A l.length c l 0 _ (hl.ext (by repeat (first | exact Ext.refl _ | refine Ext.alloc ?_ _ | assumption | refine Ext.over ?_ _ | refine Ext.drew ?_ | refine Ext.drewN ?_ _))) rfl (by omega) (by omega) (by omega)).mono ?_
    rintro _ w2 ⟨gd, rfl, ho, he⟩
    have HE := hid (Ext.trans (show Ext w _ by repeat (first | exact Ext.refl _ | refine Ext.alloc ?_ _ | assumption | refine Ext.over ?_ _ | refine Ext.drew ?_ | refine Ext.drewN ?_ _)) he)
    have HO := hid ho
    have b0 := old_cell he (show World.cell? _ ⟨w.heap.size, 0, none⟩ = some (.int .i64 ↑h) by go_simp)
    clear ho he
    go_wp2_with fail
    go_loopw [4] (fun iv wr => ∃ k : Nat, k ≤ h ∧ (∀ j, j < k → reach l h j = true) ∧ iv = .int .i64 ↑k ∧ Ext w2 wr) (fun iv _ => h - (intOf iv).toNat)
    case atStart => exact ⟨0, by omega, by omega, rfl, Ext.refl _⟩
    case round =>
      obtain ⟨k, hk, hr, rfl, he⟩ := hrel
      have HR := hid hr
      have HE2 := hid (Ext.trans HE.out he)
      have HE3 := hid he
      have e0 := old_cell he b0
      clear hr
      by_cases hlt : k < h
      · have c1 : w2.cell? ⟨gd, k, none⟩ = some (.int .i64 (dist h (adjD l) 0 k)) := by rw [HO.out.cellAt k (by omega)]; exact distC_get hlt
        have c2 := old_cell he c1
        cases hv : decide (dist h (adjD l) 0 k < 0)
        · have HV := hid (show reach l h k = true by unfold reach; simp at hv ⊢; omega)
          clear c1 b0 he
          go_wp2_with fail
          go_roundw
          case rel => exact ⟨k + 1, by omega, lt_succ_all HR.out HV.out, by go_num, HE3.out⟩
          case measure => simp [intOf]; omega
        · have HV := hid (allN_false hlt (show reach l h k = false by unfold reach; simp at hv ⊢; omega))
          clear c1 b0 he
          go_wp2_with fail
          go_ret
          exact ⟨by rw [HY.out, HV.out]; rfl, HE2.out⟩
      · have HV := hid (allN_true (n := h) (p := reach l h) (fun j hj => HR.out j (by omega)))
        clear b0 he
        go_wp2_with fail
        go_ret
        exact ⟨by rw [HY.out, HV.out]; rfl, HE2.out⟩
theorem eqNilS (w : World) : (binOp .eql 31 (.slice none 0 0) (.slice none 0 0)).run Try.prog w = .ok (.bool true) w := by kernel_rfl
theorem eqSomeS (p : Addr) (n c : Nat) (w : World) : (binOp .eql 31 (.slice (some p) n c) (.slice none 0 0)).run Try.prog w = .ok (.bool false) w := by kernel_rfl
theorem houseBad {h : Int} {l : List T2} {k : Nat} (hk : k < l.length) (g : doorAt h l k = false) : houseOk h l = false := houseOk_no (form_doors hk g)
set_option maxHeartbeats 3200000 in
set_option maxRecDepth 100000 in
theorem iHouseOk_any (h : Int) (A : Option Addr) (n c : Nat) (l : List T2) (w : World) (hl : Row w A (l.flatMap T2.v)) (hn : l.length = n) (hx : n ≤ 1048577) :
    Gives Try.prog 15 #[.agg #[.int .i64 h, .slice A n c]] w (.bool (houseOk h l)) := by
  subst hn
  cases g1 : btw h 1 7
  · have HB := hid (houseOk_no (show form h l = false by unfold form; rw [g1]; simp))
    (unfold Gives; go_enter Try.func15, Try.ntmps15)
    go_wp2_with (go_at_call 51; refine (gives_b g1 (between_any _ _ _ _)).over.mono ?_; rintro e w' ⟨rfl, xw, rfl⟩)
    go_ret
    exact ⟨by rw [HB.out]; rfl, by repeat (first | exact Ext.refl _ | refine Ext.alloc ?_ _ | assumption | refine Ext.over ?_ _ | refine Ext.drew ?_ | refine Ext.drewN ?_ _)⟩
  cases g12 : decide ((12 : Int) < l.length)
  rotate_left
  · have HB := hid (houseOk_no (show form h l = false by unfold form; rw [decide_eq_false (show ¬ l.length ≤ 12 by simp at g12; omega)]; simp))
    (unfold Gives; go_enter Try.func15, Try.ntmps15)
    go_wp2_with (go_at_call 51; refine (gives_b g1 (between_any _ _ _ _)).over.mono ?_; rintro e w' ⟨rfl, xw, rfl⟩)
    go_ret
    exact ⟨by rw [HB.out]; rfl, by repeat (first | exact Ext.refl _ | refine Ext.alloc ?_ _ | assumption | refine Ext.over ?_ _ | refine Ext.drew ?_ | refine Ext.drewN ?_ _)⟩
  have h12 : l.length ≤ 12 := by simp at g12; omega
  have hb := btw_iff.1 g1
  have G1 := hid g1
  (unfold Gives; go_enter Try.func15, Try.ntmps15)
  go_wp2_with (go_at_call 51; refine (gives_b G1.out (between_any _ _ _ _)).over.mono ?_; rintro e w' ⟨rfl, xw, rfl⟩)
  go_loopw [19] (fun i wr => ∃ (k : Nat), (∀ j, j < k → doorAt h l j = true) ∧ k ≤ l.length ∧ i = .int .i64 ↑k ∧ Ext w wr ∧ wr.cell? ⟨w.heap.size, 0, none⟩ = some (.int .i64 h) ∧ wr.cell? ⟨w.heap.size, 1, none⟩ = some (.slice A l.length c)) (fun i _ => (l.length - (intOf i).toNat))
  case atStart => exact ⟨0, by omega, by omega, rfl, by repeat (first | exact Ext.refl _ | refine Ext.alloc ?_ _ | assumption | refine Ext.over ?_ _ | refine Ext.drew ?_ | refine Ext.drewN ?_ _), by go_simp, by go_simp⟩
  case round =>
    obtain ⟨k, hk, hkn, rfl, he, b0, b1⟩ := hrel
    have HK := hid hk
    have HE := hid he
    have HR := hid (hl.ext he)
    clear hk he hl g12 g1
    by_cases hlt : k < l.length
    · obtain ⟨b, off, hA, hc⟩ := HR.out.t2 hlt
      subst hA
      obtain ⟨c1, c2⟩ := hc k hlt
      cases g1 : decide ((at2 l k).a < 0)
      rotate_left
      · have HB := hid (houseBad (h := h) hlt (doorAt_bad (by unfold badD; rw [g1]; rfl)))
        clear hc
        go_wp2_with fail
        go_ret
        exact ⟨by rw [HB.out]; rfl, HE.out.trans (by repeat (first | exact Ext.refl _ | refine Ext.alloc ?_ _ | assumption | refine Ext.over ?_ _ | refine Ext.drew ?_ | refine Ext.drewN ?_ _))⟩
      cases g2 : decide ((at2 l k).b ≤ (at2 l k).a)
      rotate_left
      · have HB := hid (houseBad (h := h) hlt (doorAt_bad (by unfold badD; rw [g2]; simp)))
        clear hc
        go_wp2_with fail
        go_ret
        exact ⟨by rw [HB.out]; rfl, HE.out.trans (by repeat (first | exact Ext.refl _ | refine Ext.alloc ?_ _ | assumption | refine Ext.over ?_ _ | refine Ext.drew ?_ | refine Ext.drewN ?_ _))⟩
      cases g3 : decide (h ≤ (at2 l k).b)
      rotate_left
      · have HB := hid (houseBad (h := h) hlt (doorAt_bad (by unfold badD; rw [g3]; simp)))
        clear hc
        go_wp2_with fail
        go_ret
        exact ⟨by rw [HB.out]; rfl, HE.out.trans (by repeat (first | exact Ext.refl _ | refine Ext.alloc ?_ _ | assumption | refine Ext.over ?_ _ | refine Ext.drew ?_ | refine Ext.drewN ?_ _))⟩
      have hbad : badD h (at2 l k) = false := by unfold badD; rw [g1, g2, g3]; rfl
      rcases k with _ | j
      · have HB := hid (doorAt_ok hbad (show lexBad l 0 = false from rfl))
        simp only [Nat.zero_mul, Nat.add_zero] at c1 c2
        clear hc hbad
        go_wp2_with fail
        (refine wp_region_calm (by kernel_rfl) (by kernel_rfl) ?_; (repeat (go_big_quiet_step (fail))); refine wpQuiet_nil ?_; rintro w1 ⟨x1, rfl⟩)
        go_wp2_with fail
        go_roundw
        case rel => exact ⟨1, lt_succ_all HK.out HB.out, by omega, rfl, HE.out.trans (by repeat (first | exact Ext.refl _ | refine Ext.alloc ?_ _ | assumption | refine Ext.over ?_ _ | refine Ext.drew ?_ | refine Ext.drewN ?_ _)), old_cell (show Ext wr _ by repeat (first | exact Ext.refl _ | refine Ext.alloc ?_ _ | assumption | refine Ext.over ?_ _ | refine Ext.drew ?_ | refine Ext.drewN ?_ _)) b0, old_cell (show Ext wr _ by repeat (first | exact Ext.refl _ | refine Ext.alloc ?_ _ | assumption | refine Ext.over ?_ _ | refine Ext.drew ?_ | refine Ext.drewN ?_ _)) b1⟩
        case measure => simp [intOf]; omega
      · obtain ⟨d1, d2⟩ := hc j (by omega)
        clear hc
        cases g4 : decide ((at2 l (j + 1)).a < (at2 l j).a)
        rotate_left
        · have HB := hid (houseBad (h := h) hlt (doorAt_lex (by show (decide _ || _) = true; rw [g4]; rfl)))
          clear hbad
          go_wp2_with fail
          (refine wp_region_calm (by kernel_rfl) (by kernel_rfl) ?_; (repeat (go_big_quiet_step (fail))); refine wpQuiet_nil ?_; rintro w1 ⟨x1, rfl⟩)
          go_wp2_with fail
          go_ret
          exact ⟨by rw [HB.out]; rfl, HE.out.trans (by repeat (first | exact Ext.refl _ | refine Ext.alloc ?_ _ | assumption | refine Ext.over ?_ _ | refine Ext.drew ?_ | refine Ext.drewN ?_ _))⟩
        cases g5 : ((at2 l j).a == (at2 l (j + 1)).a)
        · have g5' : ((at2 l (j + 1)).a == (at2 l j).a) = false := by rw [← g5]; exact Bool.beq_comm
          have HB := hid (doorAt_ok hbad (show lexBad l (j + 1) = false by show (decide _ || (_ && _)) = false; rw [g4, g5]; rfl))
          clear hbad
          go_wp2_with fail
          (refine wp_region_calm (by kernel_rfl) (by kernel_rfl) ?_; (repeat (go_big_quiet_step (fail))); refine wpQuiet_nil ?_; rintro w1 ⟨x1, rfl⟩)
          go_wp2_with fail
          go_roundw
          case rel => exact ⟨j + 1 + 1, lt_succ_all HK.out HB.out, by omega, by go_num, HE.out.trans (by repeat (first | exact Ext.refl _ | refine Ext.alloc ?_ _ | assumption | refine Ext.over ?_ _ | refine Ext.drew ?_ | refine Ext.drewN ?_ _)), old_cell (show Ext wr _ by repeat (first | exact Ext.refl _ | refine Ext.alloc ?_ _ | assumption | refine Ext.over ?_ _ | refine Ext.drew ?_ | refine Ext.drewN ?_ _)) b0, old_cell (show Ext wr _ by repeat (first | exact Ext.refl _ | refine Ext.alloc ?_ _ | assumption | refine Ext.over ?_ _ | refine Ext.drew ?_ | refine Ext.drewN ?_ _)) b1⟩
          case measure => simp [intOf]; omega
        have g5' : ((at2 l (j + 1)).a == (at2 l j).a) = true := by rw [← g5]; exact Bool.beq_comm
        cases g6 : decide ((at2 l (j + 1)).b ≤ (at2 l j).b)
        · have HB := hid (doorAt_ok hbad (show lexBad l (j + 1) = false by show (decide _ || (_ && _)) = false; rw [g4, g6]; simp))
          clear hbad
          go_wp2_with fail
          (refine wp_region_calm (by kernel_rfl) (by kernel_rfl) ?_; (repeat (go_big_quiet_step (fail))); refine wpQuiet_nil ?_; rintro w1 ⟨x1, rfl⟩)
          go_wp2_with fail
          go_roundw
          case rel => exact ⟨j + 1 + 1, lt_succ_all HK.out HB.out, by omega, by go_num, HE.out.trans (by repeat (first | exact Ext.refl _ | refine Ext.alloc ?_ _ | assumption | refine Ext.over ?_ _ | refine Ext.drew ?_ | refine Ext.drewN ?_ _)), old_cell (show Ext wr _ by repeat (first | exact Ext.refl _ | refine Ext.alloc ?_ _ | assumption | refine Ext.over ?_ _ | refine Ext.drew ?_ | refine Ext.drewN ?_ _)) b0, old_cell (show Ext wr _ by repeat (first | exact Ext.refl _ | refine Ext.alloc ?_ _ | assumption | refine Ext.over ?_ _ | refine Ext.drew ?_ | refine Ext.drewN ?_ _)) b1⟩
          case measure => simp [intOf]; omega
        · have HB := hid (houseBad (h := h) hlt (doorAt_lex (by show (decide _ || (_ && _)) = true; rw [g5, g6]; simp)))
          clear hbad
          go_wp2_with fail
          (refine wp_region_calm (by kernel_rfl) (by kernel_rfl) ?_; (repeat (go_big_quiet_step (fail))); refine wpQuiet_nil ?_; rintro w1 ⟨x1, rfl⟩)
          go_wp2_with fail
          go_ret
          exact ⟨by rw [HB.out]; rfl, HE.out.trans (by repeat (first | exact Ext.refl _ | refine Ext.alloc ?_ _ | assumption | refine Ext.over ?_ _ | refine Ext.drew ?_ | refine Ext.drewN ?_ _))⟩
    · have hall : doorsOk h l = true := allN_true (fun j hj => HK.out j (by omega))
      have hf : form h l = true := by unfold form; rw [hall, G1.out, decide_eq_true h12]; rfl
      obtain ⟨h, rfl⟩ : ∃ k : Nat, h = k := ⟨h.toNat, by omega⟩
      have HY := hid (houseOk_yes hf)
      have HA := hid hall
      clear hf hall
      rename World => wo
      go_wp2_with fail
      go_loopw [5] (fun iv wr => ∃ k : Nat, k ≤ h ∧ (∀ j, j < k → reach l h j = true) ∧ iv = .int .i64 ↑k ∧ Ext wo wr) (fun iv _ => h - (intOf iv).toNat)
      case atStart => exact ⟨0, by omega, by omega, rfl, Ext.refl _⟩
      case round =>
        obtain ⟨k', hk', hr, rfl, he⟩ := hrel
        have HR2 := hid hr
        have HE2 := hid (Ext.trans HE.out he)
        have HE3 := hid he
        have HRow := hid (HR.out.ext he)
        have e0 := old_cell he b0
        have e1 := old_cell he b1
        clear hr he
        by_cases hlt' : k' < h
        · go_wp2_with fail
          refine (wayIn_any h A l.length c l 0 k' _ (HRow.out.ext (by repeat (first | exact Ext.refl _ | refine Ext.alloc ?_ _ | assumption | refine Ext.over ?_ _ | refine Ext.drew ?_ | refine Ext.drewN ?_ _))) rfl h12 (by omega) HA.out (by omega) hlt').mono ?_
          rintro en w2 ⟨he2, ⟨h1, rfl⟩ | ⟨h1, A', c', rfl, ho⟩⟩
          · have HV := hid (allN_false hlt' (show reach l h k' = false by unfold reach; simp; omega))
            have HE4 := hid (Ext.trans HE2.out he2)
            clear he2 h1
            have hnil := eqNilS
            go_wp2_with fail
            go_ret
            exact ⟨by rw [HY.out, HV.out]; rfl, HE4.out⟩
          · have HV := hid (show reach l h k' = true by unfold reach; simp; omega)
            have HE4 := hid (Ext.trans HE3.out he2)
            obtain ⟨gA, hA⟩ := own_addr ho (by omega)
            subst hA
            clear he2 h1 ho
            have hnil := eqSomeS
            go_wp2_with fail
            go_roundw
            case rel => exact ⟨k' + 1, by omega, lt_succ_all HR2.out HV.out, by go_num, HE4.out⟩
            case measure => simp [intOf]; omega
        · have HV := hid (allN_true (n := h) (p := reach l h) (fun j hj => HR2.out j (by omega)))
          go_wp2_with fail
          go_ret
          exact ⟨by rw [HY.out, HV.out]; rfl, HE2.out⟩
end Go.Proofs.Ytngniniiohgilaa
