/- Walks: BlindPoints, both. Conditions: at most 1048577 corners and cameras. -/
import Derived.Test.YtelmpiaaaffmlaaLeastS
namespace Go.Proofs.Ytelmpiaaaffmlaa
open Go.RowKit
set_option linter.unusedVariables false

/-- The points of the first k that pass a test. -/
def takeF (F : List T2) (q : T2 → Bool) (k : Nat) : List T2 := (F.take k).filter q
theorem takeF_yes {F : List T2} {q : T2 → Bool} {k : Nat} (hk : k < F.length) (h : q (at2 F k) = true) : takeF F q (k + 1) = takeF F q k ++ [at2 F k] := by
  unfold takeF
  rw [at2_eq _ _ hk] at h ⊢
  rw [List.take_add_one, List.getElem?_eq_getElem hk, Option.toList_some, List.filter_append, List.filter_cons_of_pos h, List.filter_nil]
theorem takeF_no {F : List T2} {q : T2 → Bool} {k : Nat} (hk : k < F.length) (h : q (at2 F k) = false) : takeF F q (k + 1) = takeF F q k := by
  unfold takeF
  rw [at2_eq _ _ hk] at h
  rw [List.take_add_one, List.getElem?_eq_getElem hk, Option.toList_some, List.filter_append, List.filter_cons_of_neg (by rw [h]; decide), List.filter_nil, List.append_nil]
theorem takeF_full (F : List T2) (q : T2 → Bool) : takeF F q F.length = F.filter q := by unfold takeF; rw [List.take_length]
theorem takeF_len (F : List T2) (q : T2 → Bool) (k : Nat) : (takeF F q k).length ≤ F.length := by
  unfold takeF
  exact Nat.le_trans (List.length_filter_le _ _) (by rw [List.length_take]; omega)
def blindL (L : List T2) (C : List T7) : List T2 := if roomS L && decide (C.length ≤ 6) then (floorL L).filter (fun p => countR L C p == 0) else []
theorem blindL_len (L : List T2) (C : List T7) : (blindL L C).length ≤ 7000 := by
  unfold blindL
  split
  · rename_i h
    simp only [Bool.and_eq_true] at h
    exact Nat.le_trans (List.length_filter_le _ _) (floor_len h.1)
  · simp
set_option maxRecDepth 100000 in
set_option maxHeartbeats 1600000 in
theorem iBlind_any (A : Option Addr) (n c : Nat) (L : List T2) (B : Option Addr) (m d : Nat) (C : List T7) (w : World) (hl : Row w A (L.flatMap T2.v)) (hn : L.length = n) (hx : n ≤ 1048577) (hr : Row w B (C.flatMap T7.v)) (hm : C.length = m) (hy : m ≤ 1048577) :
    Calls Try.prog 15 #[.agg #[.slice A n c], .slice B m d] w fun en w' => ∃ A' q c', en = .returned (.slice A' q c') ∧ w'.ownsRow w.heap.size 28 2 (.slice A' q c') q ((blindL L C).flatMap T2.v) ∧ Ext w w' := by
  subst hm
  have HL := hid hl
  have HR := hid hr
  clear hl hr
  cases hro : roomS L
  · have HV := hid (show blindL L C = [] by unfold blindL; rw [hro]; rfl)
    go_enter Try.func15, Try.ntmps15
    go_wp2_with (go_at_call 38; refine (gives_b hro (iRoom_any A n c L _ (HL.out.ext (by repeat (first | exact Ext.refl _ | refine Ext.alloc ?_ _ | assumption | refine Ext.over ?_ _ | refine Ext.drew ?_ | refine Ext.drewN ?_ _))) hn hx)).over.mono ?_; rintro e w' ⟨rfl, xw, rfl⟩)
    refine bodyPost_ret (v := .slice none 0 0) (by first | rfl | (simp [results, Try.results15, go_sem]; done)) rfl ?_
    exact ⟨none, 0, 0, rfl, by rw [HV.out]; exact World.ownsRow_nil _ _ _ _, by repeat (first | exact Ext.refl _ | refine Ext.alloc ?_ _ | assumption | refine Ext.over ?_ _ | refine Ext.drew ?_ | refine Ext.drewN ?_ _)⟩
  by_cases h6 : C.length ≤ 6
  rotate_left
  · have HV := hid (show blindL L C = [] by unfold blindL; rw [decide_eq_false h6]; simp)
    have h6' : (6 : Int) < C.length := by omega
    go_enter Try.func15, Try.ntmps15
    go_wp2_with (go_at_call 38; refine (gives_b hro (iRoom_any A n c L _ (HL.out.ext (by repeat (first | exact Ext.refl _ | refine Ext.alloc ?_ _ | assumption | refine Ext.over ?_ _ | refine Ext.drew ?_ | refine Ext.drewN ?_ _))) hn hx)).over.mono ?_; rintro e w' ⟨rfl, xw, rfl⟩)
    refine bodyPost_ret (v := .slice none 0 0) (by first | rfl | (simp [results, Try.results15, go_sem]; done)) rfl ?_
    exact ⟨none, 0, 0, rfl, by rw [HV.out]; exact World.ownsRow_nil _ _ _ _, by repeat (first | exact Ext.refl _ | refine Ext.alloc ?_ _ | assumption | refine Ext.over ?_ _ | refine Ext.drew ?_ | refine Ext.drewN ?_ _)⟩
  have HV := hid (show blindL L C = takeF (floorL L) (fun p => countR L C p == 0) (floorL L).length by unfold blindL; rw [hro, decide_eq_true h6, takeF_full]; rfl)
  have h6' : (C.length : Int) ≤ 6 := by omega
  have HFO := hid (fun k hk => floor_at hro (k := k) hk)
  have hfl := floor_len hro
  have HFM := hid (fun p hp w' (h : Row w' A (L.flatMap T2.v)) (h' : Row w' B (C.flatMap T7.v)) => filming_any A n c L B C.length d C p w' h hn h' rfl hy hro hp)
  unfold ptV at HFM
  go_enter Try.func15, Try.ntmps15
  go_wp2_with fail
  refine (gives_b hro (iRoom_any A n c L _ (HL.out.ext (by repeat (first | exact Ext.refl _ | refine Ext.alloc ?_ _ | assumption | refine Ext.over ?_ _ | refine Ext.drew ?_ | refine Ext.drewN ?_ _))) hn hx)).mono ?_
  rintro _ w1 ⟨rfl, e1⟩
  have b0 : w1.cell? ⟨w.heap.size, 0, none⟩ = some (.slice A n c) := old_cell e1 (by go_simp)
  have E1 := hid (Ext.trans (show Ext w _ by repeat (first | exact Ext.refl _ | refine Ext.alloc ?_ _ | assumption | refine Ext.over ?_ _ | refine Ext.drew ?_ | refine Ext.drewN ?_ _)) e1)
  have hlow := World.block_lt_of_cell? w1 _ b0
  clear e1
  go_wp2_with fail
  refine (floor_any A n c L _ (HL.out.ext (E1.out.trans (by repeat (first | exact Ext.refl _ | refine Ext.alloc ?_ _ | assumption | refine Ext.over ?_ _ | refine Ext.drew ?_ | refine Ext.drewN ?_ _)))) hn hro).mono ?_
  rintro _ w2 ⟨D, q, c1, rfl, ho, he⟩
  have hq := own_len2 ho
  have hown := own_ext (own_empty w1 w1.heap.size w.heap.size rfl E1.out.size 28 2) he
  have e12 : Ext w1 w2 := Ext.trans (by repeat (first | exact Ext.refl _ | refine Ext.alloc ?_ _ | assumption | refine Ext.over ?_ _ | refine Ext.drew ?_ | refine Ext.drewN ?_ _)) he
  have b2 := old_cell e12 b0
  have E2 := hid (E1.out.trans e12)
  have HO := hid ho
  have HOW := hid hown
  have hg2 : w1.heap.size < w2.heap.size := by have := he.size; simp at this; omega
  have hgb : w1.heap.size < (w1.alloc (.cells #[] 28)).heap.size := by simp
  obtain ⟨g, hg⟩ : ∃ g, g = w1.heap.size := ⟨_, rfl⟩
  have hsz := E2.out.size
  rw [← hg] at hg2 hlow HOW hgb ⊢
  have hlow' : w.heap.size < g := hlow
  generalize (w1.alloc (.cells #[] 28)).heap.size = gb at HO hgb
  generalize hF : floorL L = F at *
  subst hq
  clear ho he b0 hown e12 hg E1 hlow
  go_wp2_with fail
  go_loopw [5, 20] (fun ov kv wr => ∃ (k : Nat) (A' : Option Addr) (m c' : Nat), k ≤ F.length ∧ kv = .int .i64 ↑k ∧ ov = .slice A' m c' ∧ wr.ownsRow w.heap.size 28 2 (.slice A' m c') m ((takeF F (fun p => countR L C p == 0) k).flatMap T2.v) ∧ OutAt w2 wr g A') (fun _ kv _ => F.length - (intOf kv).toNat)
  case atStart => exact ⟨0, _, _, _, by omega, rfl, rfl, HOW.out, OutAt.refl _ _⟩
  case round =>
    clear HOW
    obtain ⟨k, A', m, c', hk, rfl, rfl, hown, hout⟩ := hrel
    have hm := own_len2 hown
    have hml := takeF_len F (fun p => countR L C p == 0) k
    have HOW := hid hown
    have HT := hid hout
    have r0 := (hout.cell (p := ⟨w.heap.size, 0, none⟩) (by show w.heap.size < w2.heap.size; omega) (by show w.heap.size ≠ g; omega)).trans b2
    have HX := hid (hout.out E2.out (by omega))
    have hm7 : m ≤ 7000 := by omega
    clear hown hout hm hml
    by_cases hlt : k < F.length
    · obtain ⟨blk, off, hB, hc⟩ := (Row.of_own (HT.out.kept HO.out hgb)).t2 hlt
      obtain ⟨c1, c2⟩ := hc k hlt
      have HM := hid (HFM.out (at2 F k) (HFO.out k hlt))
      have HYES := hid (fun h => takeF_yes (q := fun p => countR L C p == 0) hlt h)
      have HNO := hid (fun h => takeF_no (q := fun p => countR L C p == 0) hlt h)
      subst hB
      generalize at2 F k = p at c1 c2 HM HYES HNO
      clear hc
      cases hz : countR L C p == 0
      · have HN := hid (HNO.out hz)
        have hcl := countR_le L C p
        generalize countR L C p = v at HM hz hcl
        have hne : ((v : Int) == 0) = false := by rw [beq_eq_false_iff_ne] at hz ⊢; omega
        clear hz
        go_wp2_with (go_at_call 39; refine (HM.out _ (HL.out.ext (HX.out.trans (by repeat (first | exact Ext.refl _ | refine Ext.alloc ?_ _ | assumption | refine Ext.over ?_ _ | refine Ext.drew ?_ | refine Ext.drewN ?_ _)))) (HR.out.ext (HX.out.trans (by repeat (first | exact Ext.refl _ | refine Ext.alloc ?_ _ | assumption | refine Ext.over ?_ _ | refine Ext.drew ?_ | refine Ext.drewN ?_ _))))).over.mono ?_; rintro e w' ⟨rfl, xw, rfl⟩)
        go_roundw
        case rel => exact ⟨k + 1, A', m, c', by omega, by go_num, rfl, by rw [HN.out]; exact own_ext HOW.out (by repeat (first | exact Ext.refl _ | refine Ext.alloc ?_ _ | assumption | refine Ext.over ?_ _ | refine Ext.drew ?_ | refine Ext.drewN ?_ _)), HT.out.ext (by repeat (first | exact Ext.refl _ | refine Ext.alloc ?_ _ | assumption | refine Ext.over ?_ _ | refine Ext.drew ?_ | refine Ext.drewN ?_ _))⟩
        case measure => simp [intOf]; omega
      · have HN := hid (HYES.out hz)
        have hz0 : ((countR L C p : Nat) : Int) = 0 := by rw [beq_iff_eq] at hz; omega
        have HO2 := hid (show (takeF F (fun p => countR L C p == 0) (k + 1)).flatMap T2.v = (takeF F (fun p => countR L C p == 0) k).flatMap T2.v ++ [.int .i64 p.a, .int .i64 p.b] by rw [HN.out, List.flatMap_append]; rfl)
        have hown := HOW.out
        generalize (takeF F (fun p => countR L C p == 0) k).flatMap T2.v = cs at hown HO2
        have HO3 := hid hown
        clear hown HOW hz
        go_wp2_with (first | (go_at_call 39; refine (gives_v hz0 (HM.out _ (HL.out.ext (HX.out.trans (by repeat (first | exact Ext.refl _ | refine Ext.alloc ?_ _ | assumption | refine Ext.over ?_ _ | refine Ext.drew ?_ | refine Ext.drewN ?_ _)))) (HR.out.ext (HX.out.trans (by repeat (first | exact Ext.refl _ | refine Ext.alloc ?_ _ | assumption | refine Ext.over ?_ _ | refine Ext.drew ?_ | refine Ext.drewN ?_ _)))))).over.mono ?_; rintro e w' ⟨rfl, xw, rfl⟩) | (at_builtin; refine wpList_pushO w2 g rfl (.tmp 29) (.tmp 31) 24 rfl 28 Try.underlying24 info_Point rfl (by decide) w.heap.size _ m c' cs rfl wr HO3.out HT.out (by repeat (first | exact Ext.refl _ | refine Ext.alloc ?_ _ | assumption | refine Ext.over ?_ _ | refine Ext.drew ?_ | refine Ext.drewN ?_ _)) hsz _ 1 1 [.int .i64 p.a, .int .i64 p.b] rfl rfl (lit_cells _ _ (by first | (simp; done) | simp [ovr_size]) _ _) (by intro u hu; simp at hu; rcases hu with rfl | rfl <;> rfl) (by decide) (by omega) (by decide) ?_))
        intro A5 c5 w5 hown5 hout5
        have HO5 := hid (show w5.ownsRow w.heap.size 28 2 (.slice A5 (m + 1) c5) (m + 1) ((takeF F (fun p => countR L C p == 0) (k + 1)).flatMap T2.v) by rw [HO2.out]; exact hown5)
        have HT5 := hid hout5
        clear hown5 hout5
        go_wp2_with fail
        go_roundw
        case rel => exact ⟨k + 1, A5, m + 1, c5, by omega, by go_num, rfl, HO5.out, HT5.out⟩
        case measure => simp [intOf]; omega
    · obtain rfl : k = F.length := by omega
      go_wp2_with fail
      refine bodyPost_ret (v := .slice A' m c') (by first | rfl | (simp [results, Try.results15, go_sem]; done)) rfl ?_
      exact ⟨A', m, c', rfl, by rw [HV.out]; exact HOW.out, HX.out⟩
end Go.Proofs.Ytelmpiaaaffmlaa
