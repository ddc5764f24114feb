/- Texts merged: lemmas and walks under FnCameras. No condition. -/
import Derived.Test.YtelmpiaaaffmlaaCountsW
import Derived.Test.YtelmpiaaaffmlaaDrawC
import Derived.Test.YtelmpiaaaffmlaaTurnC
import Derived.Test.YtelmpiaaaffmlaaFilm
import Derived.Test.YtelmpiaaaffmlaaDraw2
/- Walks: LeastFilming of the reference, IsRobust of both. Conditions: at most 1048577 corners and cameras. -/
namespace Go.Proofs.Ytelmpiaaaffmlaa
open Go.RowKit
set_option linter.unusedVariables false

theorem rowC_val {L : List T2} {C : List T7} {F : List T2} {j : Nat} (hj : j < F.length) : (rowC L C F C.length 0)[j]? = some ((countR L C (at2 F j) : Nat) : Int) := by
  rw [rowC_at hj, if_neg (by omega)]; rfl
theorem floorR_yes {L : List T2} (h : roomS L = true) : floorR L = floorL L := by unfold floorR; rw [h]; rfl
def robR (L : List T2) (C : List T7) (z : Int) : Bool := decide (0 ≤ z) && decide (z < leastR L C)
theorem leastR_range (L : List T2) (C : List T7) : -1 ≤ leastR L C ∧ leastR L C ≤ 6 := by
  unfold leastR
  split
  · rename_i h
    simp only [Bool.and_eq_true, decide_eq_true_eq] at h
    have := leastN_le L C (floorL L) (floorL L).length
    omega
  · omega
set_option maxRecDepth 100000 in
theorem iRobust_any (A : Option Addr) (n c : Nat) (L : List T2) (B : Option Addr) (m d : Nat) (C : List T7) (z : Int) (w : World) (hl : Row w A (L.flatMap T2.v)) (hn : L.length = n) (hx : n ≤ 1048577) (hr : Row w B (C.flatMap T7.v)) (hm : C.length = m) (hy : m ≤ 1048577) : Gives Try.prog 21 #[.agg #[.slice A n c], .slice B m d, .int .i64 z] w (.bool (robR L C z)) := by
  have HL := hid hl
  have HR := hid hr
  have HG := hid (fun w' (h : Row w' A (L.flatMap T2.v)) (h' : Row w' B (C.flatMap T7.v)) => iLeast_any A n c L B m d C w' h hn hx h' hm hy)
  clear hl hr
  cases h0 : decide (0 ≤ z)
  · have HV := hid (show robR L C z = false by unfold robR; rw [h0]; rfl)
    (unfold Gives; go_enter Try.func21, Try.ntmps21)
    go_wp2_with fail
    go_ret
    exact ⟨by rw [HV.out]; rfl, by repeat (first | exact Ext.refl _ | refine Ext.alloc ?_ _ | assumption | refine Ext.over ?_ _ | refine Ext.drew ?_ | refine Ext.drewN ?_ _)⟩
  · have HV := hid (show robR L C z = decide (z < leastR L C) by unfold robR; rw [h0]; rfl)
    (unfold Gives; go_enter Try.func21, Try.ntmps21)
    go_wp2_with (go_at_call 16; refine (HG.out _ (HL.out.ext (by repeat (first | exact Ext.refl _ | refine Ext.alloc ?_ _ | assumption | refine Ext.over ?_ _ | refine Ext.drew ?_ | refine Ext.drewN ?_ _))) (HR.out.ext (by repeat (first | exact Ext.refl _ | refine Ext.alloc ?_ _ | assumption | refine Ext.over ?_ _ | refine Ext.drew ?_ | refine Ext.drewN ?_ _)))).over.mono ?_; rintro e w' ⟨rfl, xw, rfl⟩)
    go_ret
    exact ⟨by rw [HV.out]; rfl, by repeat (first | exact Ext.refl _ | refine Ext.alloc ?_ _ | assumption | refine Ext.over ?_ _ | refine Ext.drew ?_ | refine Ext.drewN ?_ _)⟩
end Go.Proofs.Ytelmpiaaaffmlaa
/- Walks: BlindPoints, both. Conditions: at most 1048577 corners and cameras. -/
namespace Go.Proofs.Ytelmpiaaaffmlaa
open Go.RowKit
set_option linter.unusedVariables false

/-- The points of the first k that pass a test. -/
def takeF (F : List T2) (q : T2 → Bool) (k : Nat) : List T2 := (F.take k).filter q
theorem takeF_yes {F : List T2} {q : T2 → Bool} {k : Nat} (hk : k < F.length) (h : q (at2 F k) = true) : takeF F q (k + 1) = takeF F q k ++ [at2 F k] := by
  unfold takeF
  rw [at2_eq _ _ hk] at h ⊢
  rw [List.take_add_one, List.getElem?_eq_getElem hk, Option.toList_some, List.filter_append, List.filter_cons_of_pos h, List.filter_nil]
theorem takeF_no {F : List T2} {q : T2 → Bool} {k : Nat} (hk : k < F.length) (h : q (at2 F k) = false) : takeF F q (k + 1) = takeF F q k := by
  unfold takeF
  rw [at2_eq _ _ hk] at h
  rw [List.take_add_one, List.getElem?_eq_getElem hk, Option.toList_some, List.filter_append, List.filter_cons_of_neg (by rw [h]; decide), List.filter_nil, List.append_nil]
theorem takeF_full (F : List T2) (q : T2 → Bool) : takeF F q F.length = F.filter q := by unfold takeF; rw [List.take_length]
theorem takeF_len (F : List T2) (q : T2 → Bool) (k : Nat) : (takeF F q k).length ≤ F.length := by
  unfold takeF
  exact Nat.le_trans (List.length_filter_le _ _) (by rw [List.length_take]; omega)
def blindL (L : List T2) (C : List T7) : List T2 := if roomS L && decide (C.length ≤ 6) then (floorL L).filter (fun p => countR L C p == 0) else []
theorem blindL_len (L : List T2) (C : List T7) : (blindL L C).length ≤ 7000 := by
  unfold blindL
  split
  · rename_i h
    simp only [Bool.and_eq_true] at h
    exact Nat.le_trans (List.length_filter_le _ _) (floor_len h.1)
  · simp
set_option maxRecDepth 100000 in
set_option maxHeartbeats 1600000 in
theorem iBlind_any (A : Option Addr) (n c : Nat) (L : List T2) (B : Option Addr) (m d : Nat) (C : List T7) (w : World) (hl : Row w A (L.flatMap T2.v)) (hn : L.length = n) (hx : n ≤ 1048577) (hr : Row w B (C.flatMap T7.v)) (hm : C.length = m) (hy : m ≤ 1048577) :
    Calls Try.prog 15 #[.agg #[.slice A n c], .slice B m d] w fun en w' => ∃ A' q c', en = .returned (.slice A' q c') ∧ w'.ownsRow w.heap.size 28 2 (.slice A' q c') q ((blindL L C).flatMap T2.v) ∧ Ext w w' := by
  subst hm
  have HL := hid hl
  have HR := hid hr
  clear hl hr
  cases hro : roomS L
  · have HV := hid (show blindL L C = [] by unfold blindL; rw [hro]; rfl)
    go_enter Try.func15, Try.ntmps15
    go_wp2_with (go_at_call 38; refine (gives_b hro (iRoom_any A n c L _ (HL.out.ext (by repeat (first | exact Ext.refl _ | refine Ext.alloc ?_ _ | assumption | refine Ext.over ?_ _ | refine Ext.drew ?_ | refine Ext.drewN ?_ _))) hn hx)).over.mono ?_; rintro e w' ⟨rfl, xw, rfl⟩)
    refine bodyPost_ret (v := .slice none 0 0) (by first | rfl | (simp [results, Try.results15, go_sem]; done)) rfl ?_
    exact ⟨none, 0, 0, rfl, by rw [HV.out]; exact World.ownsRow_nil _ _ _ _, by repeat (first | exact Ext.refl _ | refine Ext.alloc ?_ _ | assumption | refine Ext.over ?_ _ | refine Ext.drew ?_ | refine Ext.drewN ?_ _)⟩
  by_cases h6 : C.length ≤ 6
  rotate_left
  · have HV := hid (show blindL L C = [] by unfold blindL; rw [decide_eq_false h6]; simp)
    have h6' : (6 : Int) < C.length := by omega
    go_enter Try.func15, Try.ntmps15
    go_wp2_with (go_at_call 38; refine (gives_b hro (iRoom_any A n c L _ (HL.out.ext (by repeat (first | exact Ext.refl _ | refine Ext.alloc ?_ _ | assumption | refine Ext.over ?_ _ | refine Ext.drew ?_ | refine Ext.drewN ?_ _))) hn hx)).over.mono ?_; rintro e w' ⟨rfl, xw, rfl⟩)
    refine bodyPost_ret (v := .slice none 0 0) (by first | rfl | (simp [results, Try.results15, go_sem]; done)) rfl ?_
    exact ⟨none, 0, 0, rfl, by rw [HV.out]; exact World.ownsRow_nil _ _ _ _, by repeat (first | exact Ext.refl _ | refine Ext.alloc ?_ _ | assumption | refine Ext.over ?_ _ | refine Ext.drew ?_ | refine Ext.drewN ?_ _)⟩
  have HV := hid (show blindL L C = takeF (floorL L) (fun p => countR L C p == 0) (floorL L).length by unfold blindL; rw [hro, decide_eq_true h6, takeF_full]; rfl)
  have h6' : (C.length : Int) ≤ 6 := by omega
  have HFO := hid (fun k hk => floor_at hro (k := k) hk)
  have hfl := floor_len hro
  have HFM := hid (fun p hp w' (h : Row w' A (L.flatMap T2.v)) (h' : Row w' B (C.flatMap T7.v)) => filming_any A n c L B C.length d C p w' h hn h' rfl hy hro hp)
  unfold ptV at HFM
  go_enter Try.func15, Try.ntmps15
  go_wp2_with fail
  refine (gives_b hro (iRoom_any A n c L _ (HL.out.ext (by repeat (first | exact Ext.refl _ | refine Ext.alloc ?_ _ | assumption | refine Ext.over ?_ _ | refine Ext.drew ?_ | refine Ext.drewN ?_ _))) hn hx)).mono ?_
  rintro _ w1 ⟨rfl, e1⟩
  have b0 : w1.cell? ⟨w.heap.size, 0, none⟩ = some (.slice A n c) := old_cell e1 (by go_simp)
  have E1 := hid (Ext.trans (show Ext w _ by repeat (first | exact Ext.refl _ | refine Ext.alloc ?_ _ | assumption | refine Ext.over ?_ _ | refine Ext.drew ?_ | refine Ext.drewN ?_ _)) e1)
  have hlow := World.block_lt_of_cell? w1 _ b0
  clear e1
  go_wp2_with fail
  refine (floor_any A n c L _ (HL.out.ext (E1.out.trans (by repeat (first | exact Ext.refl _ | refine Ext.alloc ?_ _ | assumption | refine Ext.over ?_ _ | refine Ext.drew ?_ | refine Ext.drewN ?_ _)))) hn hro).mono ?_
  rintro _ w2 ⟨D, q, c1, rfl, ho, he⟩
  have hq := own_len2 ho
  have hown := own_ext (own_empty w1 w1.heap.size w.heap.size rfl E1.out.size 28 2) he
  have e12 : Ext w1 w2 := Ext.trans (by repeat (first | exact Ext.refl _ | refine Ext.alloc ?_ _ | assumption | refine Ext.over ?_ _ | refine Ext.drew ?_ | refine Ext.drewN ?_ _)) he
  have b2 := old_cell e12 b0
  have E2 := hid (E1.out.trans e12)
  have HO := hid ho
  have HOW := hid hown
  have hg2 : w1.heap.size < w2.heap.size := by have := he.size; simp at this; omega
  have hgb : w1.heap.size < (w1.alloc (.cells #[] 28)).heap.size := by simp
  obtain ⟨g, hg⟩ : ∃ g, g = w1.heap.size := ⟨_, rfl⟩
  have hsz := E2.out.size
  rw [← hg] at hg2 hlow HOW hgb ⊢
  have hlow' : w.heap.size < g := hlow
  generalize (w1.alloc (.cells #[] 28)).heap.size = gb at HO hgb
  generalize hF : floorL L = F at *
  subst hq
  clear ho he b0 hown e12 hg E1 hlow
  go_wp2_with fail
  go_loopw [5, 20] (fun ov kv wr => ∃ (k : Nat) (A' : Option Addr) (m c' : Nat), k ≤ F.length ∧ kv = .int .i64 ↑k ∧ ov = .slice A' m c' ∧ wr.ownsRow w.heap.size 28 2 (.slice A' m c') m ((takeF F (fun p => countR L C p == 0) k).flatMap T2.v) ∧ OutAt w2 wr g A') (fun _ kv _ => F.length - (intOf kv).toNat)
  case atStart => exact ⟨0, _, _, _, by omega, rfl, rfl, HOW.out, OutAt.refl _ _⟩
  case round =>
    clear HOW
    obtain ⟨k, A', m, c', hk, rfl, rfl, hown, hout⟩ := hrel
    have hm := own_len2 hown
    have hml := takeF_len F (fun p => countR L C p == 0) k
    have HOW := hid hown
    have HT := hid hout
    have r0 := (hout.cell (p := ⟨w.heap.size, 0, none⟩) (by show w.heap.size < w2.heap.size; omega) (by show w.heap.size ≠ g; omega)).trans b2
    have HX := hid (hout.out E2.out (by omega))
    have hm7 : m ≤ 7000 := by omega
    clear hown hout hm hml
    by_cases hlt : k < F.length
    · obtain ⟨blk, off, hB, hc⟩ := (Row.of_own (HT.out.kept HO.out hgb)).t2 hlt
      obtain ⟨c1, c2⟩ := hc k hlt
      have HM := hid (HFM.out (at2 F k) (HFO.out k hlt))
      have HYES := hid (fun h => takeF_yes (q := fun p => countR L C p == 0) hlt h)
      have HNO := hid (fun h => takeF_no (q := fun p => countR L C p == 0) hlt h)
      subst hB
      generalize at2 F k = p at c1 c2 HM HYES HNO
      clear hc
      cases hz : countR L C p == 0
      · have HN := hid (HNO.out hz)
        have hcl := countR_le L C p
        generalize countR L C p = v at HM hz hcl
        have hne : ((v : Int) == 0) = false := by rw [beq_eq_false_iff_ne] at hz ⊢; omega
        clear hz
        go_wp2_with (go_at_call 39; refine (HM.out _ (HL.out.ext (HX.out.trans (by repeat (first | exact Ext.refl _ | refine Ext.alloc ?_ _ | assumption | refine Ext.over ?_ _ | refine Ext.drew ?_ | refine Ext.drewN ?_ _)))) (HR.out.ext (HX.out.trans (by repeat (first | exact Ext.refl _ | refine Ext.alloc ?_ _ | assumption | refine Ext.over ?_ _ | refine Ext.drew ?_ | refine Ext.drewN ?_ _))))).over.mono ?_; rintro e w' ⟨rfl, xw, rfl⟩)
        go_roundw
        case rel => exact ⟨k + 1, A', m, c', by omega, by go_num, rfl, by rw [HN.out]; exact own_ext HOW.out (by repeat (first | exact Ext.refl _ | refine Ext.alloc ?_ _ | assumption | refine Ext.over ?_ _ | refine Ext.drew ?_ | refine Ext.drewN ?_ _)), HT.out.ext (by repeat (first | exact Ext.refl _ | refine Ext.alloc ?_ _ | assumption | refine Ext.over ?_ _ | refine Ext.drew ?_ | refine Ext.drewN ?_ _))⟩
        case measure => simp [intOf]; omega
      · have HN := hid (HYES.out hz)
        have hz0 : ((countR L C p : Nat) : Int) = 0 := by rw [beq_iff_eq] at hz; omega
        have HO2 := hid (show (takeF F (fun p => countR L C p == 0) (k + 1)).flatMap T2.v = (takeF F (fun p => countR L C p == 0) k).flatMap T2.v ++ [.int .i64 p.a, .int .i64 p.b] by rw [HN.out, List.flatMap_append]; rfl)
        have hown := HOW.out
        generalize (takeF F (fun p => countR L C p == 0) k).flatMap T2.v = cs at hown HO2
        have HO3 := hid hown
        clear hown HOW hz
        go_wp2_with (first | (go_at_call 39; refine (gives_v hz0 (HM.out _ (HL.out.ext (HX.out.trans (by repeat (first | exact Ext.refl _ | refine Ext.alloc ?_ _ | assumption | refine Ext.over ?_ _ | refine Ext.drew ?_ | refine Ext.drewN ?_ _)))) (HR.out.ext (HX.out.trans (by repeat (first | exact Ext.refl _ | refine Ext.alloc ?_ _ | assumption | refine Ext.over ?_ _ | refine Ext.drew ?_ | refine Ext.drewN ?_ _)))))).over.mono ?_; rintro e w' ⟨rfl, xw, rfl⟩) | (at_builtin; refine wpList_pushO w2 g rfl (.tmp 29) (.tmp 31) 24 rfl 28 Try.underlying24 info_Point rfl (by decide) w.heap.size _ m c' cs rfl wr HO3.out HT.out (by repeat (first | exact Ext.refl _ | refine Ext.alloc ?_ _ | assumption | refine Ext.over ?_ _ | refine Ext.drew ?_ | refine Ext.drewN ?_ _)) hsz _ 1 1 [.int .i64 p.a, .int .i64 p.b] rfl rfl (lit_cells _ _ (by first | (simp; done) | simp [ovr_size]) _ _) (by intro u hu; simp at hu; rcases hu with rfl | rfl <;> rfl) (by decide) (by omega) (by decide) ?_))
        intro A5 c5 w5 hown5 hout5
        have HO5 := hid (show w5.ownsRow w.heap.size 28 2 (.slice A5 (m + 1) c5) (m + 1) ((takeF F (fun p => countR L C p == 0) (k + 1)).flatMap T2.v) by rw [HO2.out]; exact hown5)
        have HT5 := hid hout5
        clear hown5 hout5
        go_wp2_with fail
        go_roundw
        case rel => exact ⟨k + 1, A5, m + 1, c5, by omega, by go_num, rfl, HO5.out, HT5.out⟩
        case measure => simp [intOf]; omega
    · obtain rfl : k = F.length := by omega
      go_wp2_with fail
      refine bodyPost_ret (v := .slice A' m c') (by first | rfl | (simp [results, Try.results15, go_sem]; done)) rfl ?_
      exact ⟨A', m, c', rfl, by rw [HV.out]; exact HOW.out, HX.out⟩
end Go.Proofs.Ytelmpiaaaffmlaa
/- Walks: FilmedBy, both. Conditions: at most 1048577 corners. -/
namespace Go.Proofs.Ytelmpiaaaffmlaa
open Go.RowKit
set_option linter.unusedVariables false

def filmedL (L : List T2) (x : T7) : List T2 := if camOk x && isIn L (camAt x) then (floorL L).filter (filmR L x) else []
theorem isIn_floor {L : List T2} (hr : roomS L = true) {p : T2} (hp : onFloor L p) : isIn L p = true := by
  rw [isIn_val, hr, hp.1, beq_eq_false_iff_ne.2 hp.2]; rfl
theorem film_in {L : List T2} {x : T7} {p : T2} (hr : roomS L = true) (h : isIn L (camAt x) = true) (hp : onFloor L p) : filmR L x p = (inFld x p.a p.b && seesS L (camAt x) p) := by
  unfold filmR seeR
  rw [h, isIn_floor hr hp]
  simp
set_option maxRecDepth 100000 in
set_option maxHeartbeats 1600000 in
theorem iFilmed_any (A : Option Addr) (n c : Nat) (L : List T2) (x : T7) (w : World) (hl : Row w A (L.flatMap T2.v)) (hn : L.length = n) (hx : n ≤ 1048577) :
    Calls Try.prog 8 #[.agg #[.slice A n c], camV x] w fun en w' => ∃ A' q c', en = .returned (.slice A' q c') ∧ w'.ownsRow w.heap.size 28 2 (.slice A' q c') q ((filmedL L x).flatMap T2.v) ∧ Ext w w' := by
  have HL := hid hl
  clear hl
  have H1 := hid (fun w' => iCameraOk_any x w')
  have H2 := hid (fun w' (h : Row w' A (L.flatMap T2.v)) => iIsIn_any A n c L (camAt x) w' h hn hx)
  unfold ptV camAt camV at *
  cases h1 : camOk x
  · have HV := hid (show filmedL L x = [] by unfold filmedL; rw [h1]; rfl)
    go_enter Try.func8, Try.ntmps8
    go_wp2_with (go_at_call 13; refine (gives_b h1 (H1.out _)).over.mono ?_; rintro e w' ⟨rfl, xw, rfl⟩)
    refine bodyPost_ret (v := .slice none 0 0) (by first | rfl | (simp [results, Try.results8, go_sem]; done)) rfl ?_
    exact ⟨none, 0, 0, rfl, by rw [HV.out]; exact World.ownsRow_nil _ _ _ _, by repeat (first | exact Ext.refl _ | refine Ext.alloc ?_ _ | assumption | refine Ext.over ?_ _ | refine Ext.drew ?_ | refine Ext.drewN ?_ _)⟩
  cases h2 : isIn L ⟨x.a, x.b⟩
  · have HV := hid (show filmedL L x = [] by unfold filmedL camAt; rw [h2]; simp)
    go_enter Try.func8, Try.ntmps8
    go_wp2_with (first | (go_at_call 13; refine (gives_b h1 (H1.out _)).over.mono ?_; rintro e w' ⟨rfl, xw, rfl⟩) | (go_at_call 28; refine (gives_b h2 (H2.out _ (HL.out.ext (by repeat (first | exact Ext.refl _ | refine Ext.alloc ?_ _ | assumption | refine Ext.over ?_ _ | refine Ext.drew ?_ | refine Ext.drewN ?_ _))))).over.mono ?_; rintro e w' ⟨rfl, xw, rfl⟩))
    refine bodyPost_ret (v := .slice none 0 0) (by first | rfl | (simp [results, Try.results8, go_sem]; done)) rfl ?_
    exact ⟨none, 0, 0, rfl, by rw [HV.out]; exact World.ownsRow_nil _ _ _ _, by repeat (first | exact Ext.refl _ | refine Ext.alloc ?_ _ | assumption | refine Ext.over ?_ _ | refine Ext.drew ?_ | refine Ext.drewN ?_ _)⟩
  have hro := (isIn_room h2).1
  have hpk := (isIn_room h2).2
  have HV := hid (show filmedL L x = takeF (floorL L) (filmR L x) (floorL L).length by unfold filmedL camAt; rw [h1, h2, takeF_full]; rfl)
  have HFO := hid (fun k hk => floor_at hro (k := k) hk)
  have hfl := floor_len hro
  have HFM := hid (fun p hp w' (h : Row w' A (L.flatMap T2.v)) => films_any A n c L x p w' h hn hro hp)
  unfold ptV camV at HFM
  go_enter Try.func8, Try.ntmps8
  go_wp2_with fail
  refine (gives_b h1 (H1.out _)).mono ?_
  rintro _ w1 ⟨rfl, e1⟩
  have b0 : w1.cell? ⟨w.heap.size, 0, none⟩ = some (.slice A n c) := old_cell e1 (by go_simp)
  have k0 : w1.cell? ⟨w.heap.size + 1, 0, none⟩ = some (.int .i64 x.a) := old_cell e1 (by go_simp)
  have k1 : w1.cell? ⟨w.heap.size + 1, 1, none⟩ = some (.int .i64 x.b) := old_cell e1 (by go_simp)
  have k2 : w1.cell? ⟨w.heap.size + 1, 2, none⟩ = some (.int .i64 x.c) := old_cell e1 (by go_simp)
  have k3 : w1.cell? ⟨w.heap.size + 1, 3, none⟩ = some (.int .i64 x.d) := old_cell e1 (by go_simp)
  have k4 : w1.cell? ⟨w.heap.size + 1, 4, none⟩ = some (.int .i64 x.e) := old_cell e1 (by go_simp)
  have k5 : w1.cell? ⟨w.heap.size + 1, 5, none⟩ = some (.int .i64 x.f) := old_cell e1 (by go_simp)
  have k6 : w1.cell? ⟨w.heap.size + 1, 6, none⟩ = some (.int .i64 x.g) := old_cell e1 (by go_simp)
  have E1 := hid (Ext.trans (show Ext w _ by repeat (first | exact Ext.refl _ | refine Ext.alloc ?_ _ | assumption | refine Ext.over ?_ _ | refine Ext.drew ?_ | refine Ext.drewN ?_ _)) e1)
  have hs1 : w.heap.size + 2 ≤ w1.heap.size := by have := e1.size; simp at this; omega
  clear e1
  go_wp2_with fail
  refine (gives_b h2 (H2.out _ (HL.out.ext (E1.out.trans (by repeat (first | exact Ext.refl _ | refine Ext.alloc ?_ _ | assumption | refine Ext.over ?_ _ | refine Ext.drew ?_ | refine Ext.drewN ?_ _)))))).mono ?_
  rintro _ w2 ⟨rfl, e2⟩
  have e12 : Ext w1 w2 := e2
  have b0 := old_cell e12 b0
  have k0 := old_cell e12 k0
  have k1 := old_cell e12 k1
  have k2 := old_cell e12 k2
  have k3 := old_cell e12 k3
  have k4 := old_cell e12 k4
  have k5 := old_cell e12 k5
  have k6 := old_cell e12 k6
  have E2 := hid (E1.out.trans e12)
  have hs2 := e12.size
  clear e2 e12 E1
  go_wp2_with fail
  refine (floor_any A n c L _ (HL.out.ext (E2.out.trans (by repeat (first | exact Ext.refl _ | refine Ext.alloc ?_ _ | assumption | refine Ext.over ?_ _ | refine Ext.drew ?_ | refine Ext.drewN ?_ _)))) hn hro).mono ?_
  rintro _ w3 ⟨D, q, c1, rfl, ho, he⟩
  have hq := own_len2 ho
  have hown := own_ext (own_empty w2 w2.heap.size w.heap.size rfl E2.out.size 28 2) he
  have e23 : Ext w2 w3 := Ext.trans (by repeat (first | exact Ext.refl _ | refine Ext.alloc ?_ _ | assumption | refine Ext.over ?_ _ | refine Ext.drew ?_ | refine Ext.drewN ?_ _)) he
  have hg3 : w2.heap.size < w3.heap.size := by have := he.size; simp at this; omega
  have hgb : w2.heap.size < (w2.alloc (.cells #[] 28)).heap.size := by simp
  obtain ⟨g, hg⟩ : ∃ g, g = w2.heap.size := ⟨_, rfl⟩
  have hlow : w.heap.size + 2 ≤ g := by omega
  have HOW := hid hown
  have b0 := old_cell e23 b0
  have k0 := old_cell e23 k0
  have k1 := old_cell e23 k1
  have k2 := old_cell e23 k2
  have k3 := old_cell e23 k3
  have k4 := old_cell e23 k4
  have k5 := old_cell e23 k5
  have k6 := old_cell e23 k6
  have E3 := hid (E2.out.trans e23)
  have HO := hid ho
  have hsz := E3.out.size
  rw [← hg] at hg3 HOW hgb ⊢
  generalize (w2.alloc (.cells #[] 28)).heap.size = gb at HO hgb
  generalize hF : floorL L = F at *
  subst hq
  clear ho he hown e23 hg E2 hs1 hs2
  go_wp2_with fail
  go_loopw [5, 22] (fun ov kv wr => ∃ (k : Nat) (A' : Option Addr) (m c' : Nat), k ≤ F.length ∧ kv = .int .i64 ↑k ∧ ov = .slice A' m c' ∧ wr.ownsRow w.heap.size 28 2 (.slice A' m c') m ((takeF F (filmR L x) k).flatMap T2.v) ∧ OutAt w3 wr g A') (fun _ kv _ => F.length - (intOf kv).toNat)
  case atStart => exact ⟨0, _, _, _, by omega, rfl, rfl, HOW.out, OutAt.refl _ _⟩
  case round =>
    clear HOW
    obtain ⟨k, A', m, c', hk, rfl, rfl, hown, hout⟩ := hrel
    have hm := own_len2 hown
    have hml := takeF_len F (filmR L x) k
    have HOW := hid hown
    have HT := hid hout
    have r0 := (hout.cell (p := ⟨w.heap.size, 0, none⟩) (by show w.heap.size < w3.heap.size; omega) (by show w.heap.size ≠ g; omega)).trans b0
    have r1 := (hout.cell (p := ⟨w.heap.size + 1, 0, none⟩) (by show w.heap.size + 1 < w3.heap.size; omega) (by show w.heap.size + 1 ≠ g; omega)).trans k0
    have r2 := (hout.cell (p := ⟨w.heap.size + 1, 1, none⟩) (by show w.heap.size + 1 < w3.heap.size; omega) (by show w.heap.size + 1 ≠ g; omega)).trans k1
    have r3 := (hout.cell (p := ⟨w.heap.size + 1, 2, none⟩) (by show w.heap.size + 1 < w3.heap.size; omega) (by show w.heap.size + 1 ≠ g; omega)).trans k2
    have r4 := (hout.cell (p := ⟨w.heap.size + 1, 3, none⟩) (by show w.heap.size + 1 < w3.heap.size; omega) (by show w.heap.size + 1 ≠ g; omega)).trans k3
    have r5 := (hout.cell (p := ⟨w.heap.size + 1, 4, none⟩) (by show w.heap.size + 1 < w3.heap.size; omega) (by show w.heap.size + 1 ≠ g; omega)).trans k4
    have r6 := (hout.cell (p := ⟨w.heap.size + 1, 5, none⟩) (by show w.heap.size + 1 < w3.heap.size; omega) (by show w.heap.size + 1 ≠ g; omega)).trans k5
    have r7 := (hout.cell (p := ⟨w.heap.size + 1, 6, none⟩) (by show w.heap.size + 1 < w3.heap.size; omega) (by show w.heap.size + 1 ≠ g; omega)).trans k6
    have HX := hid (hout.out E3.out (by omega))
    have hm7 : m ≤ 7000 := by omega
    clear hown hout hm hml
    by_cases hlt : k < F.length
    · obtain ⟨blk, off, hB, hc⟩ := (Row.of_own (HT.out.kept HO.out hgb)).t2 hlt
      obtain ⟨c1, c2⟩ := hc k hlt
      have hkt : (k : Int) < F.length := by omega
      have HPO := hid (HFO.out k hlt)
      have HYES := hid (fun h => takeF_yes (q := filmR L x) hlt h)
      have HNO := hid (fun h => takeF_no (q := filmR L x) hlt h)
      subst hB
      generalize at2 F k = p at c1 c2 HPO HYES HNO
      clear hc
      have HM := hid (HFM.out p HPO.out)
      cases hf : filmR L x p
      · have HN := hid (HNO.out hf)
        go_wp2_with (go_at_call 30; refine (gives_b hf (HM.out _ (HL.out.ext (HX.out.trans (by repeat (first | exact Ext.refl _ | refine Ext.alloc ?_ _ | assumption | refine Ext.over ?_ _ | refine Ext.drew ?_ | refine Ext.drewN ?_ _)))))).over.mono ?_; rintro e w' ⟨rfl, xw, rfl⟩)
        go_roundw
        case rel => exact ⟨k + 1, A', m, c', by omega, by go_num, rfl, by rw [HN.out]; exact own_ext HOW.out (by repeat (first | exact Ext.refl _ | refine Ext.alloc ?_ _ | assumption | refine Ext.over ?_ _ | refine Ext.drew ?_ | refine Ext.drewN ?_ _)), HT.out.ext (by repeat (first | exact Ext.refl _ | refine Ext.alloc ?_ _ | assumption | refine Ext.over ?_ _ | refine Ext.drew ?_ | refine Ext.drewN ?_ _))⟩
        case measure => simp [intOf]; omega
      · have HN := hid (HYES.out hf)
        have HO2 := hid (show (takeF F (filmR L x) (k + 1)).flatMap T2.v = (takeF F (filmR L x) k).flatMap T2.v ++ [.int .i64 p.a, .int .i64 p.b] by rw [HN.out, List.flatMap_append]; rfl)
        have hown := HOW.out
        generalize (takeF F (filmR L x) k).flatMap T2.v = cs at hown HO2
        have HO3 := hid hown
        clear hown HOW
        go_wp2_with (first | (go_at_call 30; refine (gives_b hf (HM.out _ (HL.out.ext (HX.out.trans (by repeat (first | exact Ext.refl _ | refine Ext.alloc ?_ _ | assumption | refine Ext.over ?_ _ | refine Ext.drew ?_ | refine Ext.drewN ?_ _)))))).over.mono ?_; rintro e w' ⟨rfl, xw, rfl⟩) | (at_builtin; refine wpList_pushO w3 g rfl (.tmp 30) (.tmp 32) 24 rfl 28 Try.underlying24 info_Point rfl (by decide) w.heap.size _ m c' cs rfl wr HO3.out HT.out (by repeat (first | exact Ext.refl _ | refine Ext.alloc ?_ _ | assumption | refine Ext.over ?_ _ | refine Ext.drew ?_ | refine Ext.drewN ?_ _)) hsz _ 1 1 [.int .i64 p.a, .int .i64 p.b] rfl rfl (lit_cells _ _ (by first | (simp; done) | simp [ovr_size]) _ _) (by intro u hu; simp at hu; rcases hu with rfl | rfl <;> rfl) (by decide) (by omega) (by decide) ?_))
        intro A5 c5 w5 hown5 hout5
        have HO5 := hid (show w5.ownsRow w.heap.size 28 2 (.slice A5 (m + 1) c5) (m + 1) ((takeF F (filmR L x) (k + 1)).flatMap T2.v) by rw [HO2.out]; exact hown5)
        have HT5 := hid hout5
        clear hown5 hout5
        go_wp2_with fail
        go_roundw
        case rel => exact ⟨k + 1, A5, m + 1, c5, by omega, by go_num, rfl, HO5.out, HT5.out⟩
        case measure => simp [intOf]; omega
    · obtain rfl : k = F.length := by omega
      go_wp2_with fail
      refine bodyPost_ret (v := .slice A' m c') (by first | rfl | (simp [results, Try.results8, go_sem]; done)) rfl ?_
      exact ⟨A', m, c', rfl, by rw [HV.out]; exact HOW.out, HX.out⟩
theorem filmedL_len (L : List T2) (x : T7) : (filmedL L x).length ≤ 7000 := by
  unfold filmedL
  split
  · rename_i h
    simp only [Bool.and_eq_true] at h
    have hr : roomS L = true := by
      cases hr : roomS L
      · have := h.2; rw [isIn_val, hr] at this; simp at this
      · rfl
    exact Nat.le_trans (List.length_filter_le _ _) (floor_len hr)
  · simp
theorem iFilmed_at (A : Option Addr) (n c : Nat) (L : List T2) (xa xb xc xd xe xf xg : Int) (w : World) (hl : Row w A (L.flatMap T2.v)) (hn : L.length = n) (hx : n ≤ 1048577) :
    Calls Try.prog 8 #[.agg #[.slice A n c], .agg #[.int .i64 xa, .int .i64 xb, .int .i64 xc, .int .i64 xd, .int .i64 xe, .int .i64 xf, .int .i64 xg]] w fun en w' => ∃ A' q c', en = .returned (.slice A' q c') ∧ w'.ownsRow w.heap.size 28 2 (.slice A' q c') q ((filmedL L (⟨xa, xb, xc, xd, xe, xf, xg⟩ : T7)).flatMap T2.v) ∧ Ext w w' :=
  iFilmed_any A n c L ⟨xa, xb, xc, xd, xe, xf, xg⟩ w hl hn hx
end Go.Proofs.Ytelmpiaaaffmlaa
/- Plain law: four quarter turns bring a camera back, and its field turns with it. No condition. -/
namespace Go.Proofs.Ytelmpiaaaffmlaa
open Go.RowKit
set_option linter.unusedVariables false

/-- A camera whose points lie near its place. -/
def CamN (x : T7) : Prop := (((-18 ≤ x.a ∧ x.a ≤ 18) ∧ (-18 ≤ x.b ∧ x.b ≤ 18)) ∧ ((-3 ≤ x.c - x.a ∧ x.c - x.a ≤ 3) ∧ (-3 ≤ x.d - x.b ∧ x.d - x.b ≤ 3) ∧ (-3 ≤ x.e - x.a ∧ x.e - x.a ≤ 3) ∧ (-3 ≤ x.f - x.b ∧ x.f - x.b ≤ 3))) ∧ 0 < (x.c - x.a) * (x.f - x.b) - (x.d - x.b) * (x.e - x.a) ∧ (1 ≤ x.g ∧ x.g ≤ 9)
theorem CamD.camN {p : T2} {x : T7} (h : CamD p x) (hp : near 18 p) : CamN x := by
  unfold CamD at h
  unfold near at hp
  unfold CamN
  refine ⟨⟨by omega, by omega⟩, h.2.2.1, h.2.2.2⟩
theorem turnW_near {a b c d e f : Int} (h1 : -81 ≤ a ∧ a ≤ 81) (h2 : -81 ≤ b ∧ b ≤ 81) (h3 : -81 ≤ c ∧ c ≤ 81) (h4 : -81 ≤ d ∧ d ≤ 81) (h5 : -81 ≤ e ∧ e ≤ 81) (h6 : -81 ≤ f ∧ f ≤ 81) : turnW a b c d e f = (c - a) * (f - b) - (d - b) * (e - a) := by
  have := turn_small (a := ⟨a, b⟩) (b := ⟨c, d⟩) (c := ⟨e, f⟩) (by unfold small; dsimp only; omega) (by unfold small; dsimp only; omega) (by unfold small; dsimp only; omega)
  exact this
theorem squareW_near {a b c d : Int} (h1 : -81 ≤ a ∧ a ≤ 81) (h2 : -81 ≤ b ∧ b ≤ 81) (h3 : -81 ≤ c ∧ c ≤ 81) (h4 : -81 ≤ d ∧ d ≤ 81) : squareW a b c d = squareZ ⟨a, b⟩ ⟨c, d⟩ :=
  (square_small (p := ⟨a, b⟩) (q := ⟨c, d⟩) (by unfold small; dsimp only; omega) (by unfold small; dsimp only; omega)).1
theorem CamN.ok {x : T7} (h : CamN x) : camOk x = true := by
  obtain ⟨⟨h1, h2⟩, h3, h4⟩ := h
  unfold camOk
  simp only [Bool.and_eq_true, decide_eq_true_eq, pok_iff, btw_iff]
  rw [turnW_near (by omega) (by omega) (by omega) (by omega) (by omega) (by omega)]
  refine ⟨?_, ?_⟩ <;> (try omega)
  all_goals (try exact ⟨⟨⟨by omega, by omega⟩, by omega⟩, h3⟩)
def rot (x : T7) : T7 := ⟨x.a, x.b, x.a - (x.d - x.b), x.b + x.c - x.a, x.a - (x.f - x.b), x.b + x.e - x.a, x.g⟩
theorem CamN.rotN {x : T7} (h : CamN x) : CamN (rot x) := by
  obtain ⟨⟨h1, h2⟩, h3, h4⟩ := h
  unfold CamN rot
  dsimp only
  refine ⟨⟨h1, by omega⟩, ?_, h4⟩
  have e : (x.a - (x.d - x.b) - x.a) * (x.b + x.e - x.a - x.b) - (x.b + x.c - x.a - x.b) * (x.a - (x.f - x.b) - x.a) = (x.c - x.a) * (x.f - x.b) - (x.d - x.b) * (x.e - x.a) := by grind
  rw [e]; exact h3
theorem CamN.turnN {x : T7} (h : CamN x) : turnCam x = rot x ∧ turnOk x = true := by
  have hr := h.rotN.ok
  have ho := h.ok
  obtain ⟨⟨h1, h2⟩, h3, h4⟩ := h
  have e : turned x = rot x := by
    unfold turned rot qx qy
    rw [IntWalk.wrap64_in (x.d - x.b) (by omega), IntWalk.wrap64_in (x.f - x.b) (by omega), IntWalk.wrap64_in (x.b + x.c) (by omega), IntWalk.wrap64_in (x.b + x.e) (by omega), IntWalk.wrap64_in (x.a - (x.d - x.b)) (by omega), IntWalk.wrap64_in (x.a - (x.f - x.b)) (by omega), IntWalk.wrap64_in (x.b + x.c - x.a) (by omega), IntWalk.wrap64_in (x.b + x.e - x.a) (by omega)]
  have ht : turnOk x = true := by unfold turnOk; rw [ho, e, hr]; rfl
  exact ⟨by unfold turnCam; rw [if_pos ht, e], ht⟩
theorem rot4 (x : T7) : rot (rot (rot (rot x))) = x := by
  unfold rot
  cases x
  simp only [T7.mk.injEq]
  refine ⟨trivial, trivial, ?_, ?_, ?_, ?_, trivial⟩ <;> omega
theorem rot_ne {x : T7} (h : CamN x) : rot x ≠ x := by
  intro e
  have h3 := h.2.1
  unfold rot at e
  cases x
  simp only [T7.mk.injEq] at e
  dsimp only at h3
  have e1 : ∀ (a b c d : Int), a - (d - b) = c → b + c - a = d → c - a = 0 ∧ d - b = 0 := fun a b c d h1 h2 => by omega
  have h5 := e1 _ _ _ _ e.2.2.1 e.2.2.2.1
  rw [h5.1, h5.2] at h3
  simp at h3
def rotP (x : T7) (p : T2) : T2 := ⟨x.a - (p.b - x.b), x.b + p.a - x.a⟩
theorem rot_field {x : T7} {p : T2} (h : CamN x) (hf : inFld x p.a p.b = true) (hp : pokT (rotP x p) = true) : inFld (rot x) (rotP x p).a (rotP x p).b = true := by
  have hr := h.rotN
  unfold inFld at hf ⊢
  simp only [Bool.and_eq_true] at hf ⊢
  obtain ⟨_, h2, h3⟩ := hf
  refine ⟨hr.ok, hp, ?_⟩
  have hpk := pok_iff.1 h2
  have hpr := pok_bd hp
  obtain ⟨⟨a1, a2⟩, a3, a4⟩ := h
  unfold inFc inFR inFL inFS at h3 ⊢
  unfold rotP rot at *
  dsimp only at *
  rw [turnW_near (by omega) (by omega) (by omega) (by omega) (by omega) (by omega), turnW_near (by omega) (by omega) (by omega) (by omega) (by omega) (by omega), squareW_near (by omega) (by omega) (by omega) (by omega)] at h3 ⊢
  have e1 : (x.a - (x.d - x.b) - x.a) * (x.b + p.a - x.a - x.b) - (x.b + x.c - x.a - x.b) * (x.a - (p.b - x.b) - x.a) = (x.c - x.a) * (p.b - x.b) - (x.d - x.b) * (p.a - x.a) := by grind
  have e2 : (x.a - (p.b - x.b) - x.a) * (x.b + x.e - x.a - x.b) - (x.b + p.a - x.a - x.b) * (x.a - (x.f - x.b) - x.a) = (p.a - x.a) * (x.f - x.b) - (p.b - x.b) * (x.e - x.a) := by grind
  have e3 : squareZ ⟨x.a, x.b⟩ ⟨x.a - (p.b - x.b), x.b + p.a - x.a⟩ = squareZ ⟨x.a, x.b⟩ ⟨p.a, p.b⟩ := by unfold squareZ; dsimp only; grind
  rw [e1, e2, e3]
  exact h3
theorem field_self {x : T7} (h : CamN x) : inFld x x.a x.b = true := by
  have ho := h.ok
  obtain ⟨⟨a1, a2⟩, a3, a4⟩ := h
  unfold inFld
  rw [ho, pok_iff.2 (by omega)]
  unfold inFc inFR inFL inFS
  rw [turnW_near (by omega) (by omega) (by omega) (by omega) (by omega) (by omega), turnW_near (by omega) (by omega) (by omega) (by omega) (by omega) (by omega), squareW_near (by omega) (by omega) (by omega) (by omega)]
  have e1 : (x.c - x.a) * (x.b - x.b) - (x.d - x.b) * (x.a - x.a) = 0 := by grind
  have e2 : (x.a - x.a) * (x.f - x.b) - (x.b - x.b) * (x.e - x.a) = 0 := by grind
  have e3 : squareZ ⟨x.a, x.b⟩ ⟨x.a, x.b⟩ = 0 := by unfold squareZ; dsimp only; grind
  have e4 : 0 ≤ x.g * x.g := Int.mul_nonneg (by omega) (by omega)
  have e5 : x.g * x.g ≤ 81 := by have := Int.mul_le_mul (show x.g ≤ 9 by omega) (show x.g ≤ 9 by omega) (by omega) (by omega); omega
  rw [e1, e2, e3, IntWalk.wrap64_in _ (by omega), decide_eq_true (Int.le_refl 0), decide_eq_true e4]
  rfl
theorem films_self {L : List T2} {x : T7} (hr : roomS L = true) (h : CamN x) (hp : camAt x ∈ floorL L) : filmR L x (camAt x) = true := by
  have hf := floor_on hr hp
  unfold filmR seeR
  rw [isIn_floor hr hf, sees_self (roomP_of hr) hf.1 hf.2]
  show (inFld x x.a x.b && true) = true
  rw [field_self h]; rfl
theorem filmed_self {L : List T2} {x : T7} (hr : roomS L = true) (h : CamN x) (hp : camAt x ∈ floorL L) : camAt x ∈ filmedL L x := by
  unfold filmedL
  rw [h.ok, isIn_floor hr (floor_on hr hp)]
  exact List.mem_filter.2 ⟨hp, films_self hr h hp⟩
theorem filmed_film {L : List T2} {x : T7} {p : T2} (h : p ∈ filmedL L x) : filmR L x p = true := by
  unfold filmedL at h
  split at h
  · exact (List.mem_filter.1 h).2
  · cases h
end Go.Proofs.Ytelmpiaaaffmlaa
/- Walks: a room and a camera in it are drawn. Conditions: sizes. -/
namespace Go.Proofs.Ytelmpiaaaffmlaa
open Go.RowKit
set_option linter.unusedVariables false

theorem CamD.near {p : T2} {x : T7} (h : CamD p x) : camAt x = p := by
  unfold camAt; rw [h.1.1, h.1.2]
theorem floor_near {m : Int} {L : List T2} (h : RoomN m L) (hm : 0 ≤ m) {p : T2} (hp : p ∈ floorL L) : near m p := by
  have hr := roomP_of h.1
  have hb := box_bound hr L.length (Nat.le_refl _)
  unfold floorL at hp
  have hf := flo_mem hp
  unfold wid hei at hf
  have hlo := hr.lo
  have h0 : ∀ j, j < L.length → (-m ≤ xs L j ∧ xs L j ≤ m) ∧ (-m ≤ ys L j ∧ ys L j ≤ m) := fun j hj => h.2 j hj
  have z0 := h0 0 (by omega)
  have b1 := mnF_bound (f := xs L) (z := xs L 0) z0.1 L.length (fun j hj => (h0 j hj).1)
  have b2 := mxF_bound (f := xs L) (z := xs L 0) z0.1 L.length (fun j hj => (h0 j hj).1)
  have b3 := mnF_bound (f := ys L) (z := ys L 0) z0.2 L.length (fun j hj => (h0 j hj).2)
  have b4 := mxF_bound (f := ys L) (z := ys L 0) z0.2 L.length (fun j hj => (h0 j hj).2)
  unfold lowX higX lowY higY at *
  unfold Go.Proofs.Ytelmpiaaaffmlaa.near
  omega
set_option maxRecDepth 100000 in
set_option maxHeartbeats 3200000 in
theorem DrawCamera_any (A : Option Addr) (n c : Nat) (bs : List Int) (w : World) (hl : Row w A (bs.map (Value.int .u8))) (hn : bs.length = n) (hx : n ≤ 1048576) (hz : ∀ z ∈ bs, 0 ≤ z ∧ z ≤ 255) :
    Calls Try.prog 6 #[.slice A n c] w fun en w' => ∃ (A : Option Addr) (k c : Nat) (L : List T2) (x : T7), en = .returned (.tuple #[.agg #[.slice A k c], .agg #[.int .i64 x.a, .int .i64 x.b, .int .i64 x.c, .int .i64 x.d, .int .i64 x.e, .int .i64 x.f, .int .i64 x.g]]) ∧ L.length = k ∧ RoomN 18 L ∧ camAt x ∈ floorL L ∧ CamD (camAt x) x ∧ Row w' A (L.flatMap T2.v) ∧ Ext w w' := by
  have HZ := hid hz
  clear hz
  go_enter Try.func6, Try.ntmps6
  go_wp2_with fail
  obtain ⟨wb, hwb⟩ : ∃ wb, wb = (w.alloc (.cells #[.slice none 0 0] 26)).alloc (.cells #[.int .i64 0, .int .i64 0, .int .i64 0, .int .i64 0, .int .i64 0, .int .i64 0, .int .i64 0] 30) := ⟨_, rfl⟩
  have EB : Ext w wb := by rw [hwb]; repeat (first | exact Ext.refl _ | refine Ext.alloc ?_ _ | assumption | refine Ext.over ?_ _ | refine Ext.drew ?_ | refine Ext.drewN ?_ _)
  have HB2 := hid (show Box wb w.heap.size (.slice none 0 0) from ⟨by rw [hwb]; go_simp, by rw [hwb]; go_simp⟩)
  have HB3 := hid (show ∀ j, j < 7 → wb.cell? ⟨w.heap.size + 1, j, none⟩ = some (.int .i64 0) ∧ wb.frozen? ⟨w.heap.size + 1, j, none⟩ = false from fun j hj => by
    rw [hwb]
    rcases (show j = 0 ∨ j = 1 ∨ j = 2 ∨ j = 3 ∨ j = 4 ∨ j = 5 ∨ j = 6 by omega) with rfl | rfl | rfl | rfl | rfl | rfl | rfl <;> exact ⟨by go_simp, by go_simp⟩)
  have HSB := hid (show w.heap.size + 2 = wb.heap.size by rw [hwb]; simp)
  refine (l01New_any A n c bs _ (hl.ext (by repeat (first | exact Ext.refl _ | refine Ext.alloc ?_ _ | assumption | refine Ext.over ?_ _ | refine Ext.drew ?_ | refine Ext.drewN ?_ _))) hn hx HZ.out).mono ?_
  rw [← hwb]
  clear hwb
  rintro _ w1 ⟨g, rfl, hg, hc, he⟩
  have HC := hid hc
  have HE := hid (EB.trans he)
  have hbl := HSB.out
  have hgl := hc.lt
  have blk : ∀ b, b < wb.heap.size → w1.heap[b]? = wb.heap[b]? := fun b hb => he.block b hb
  have H2 := hid (HB2.out.blk (blk _ (by omega)))
  have H3 := hid (show ∀ j, j < 7 → w1.cell? ⟨w.heap.size + 1, j, none⟩ = some (.int .i64 0) ∧ w1.frozen? ⟨w.heap.size + 1, j, none⟩ = false from fun j hj => ⟨(World.cell?_of_block (a := ⟨w.heap.size + 1, j, none⟩) (blk _ (by show w.heap.size + 1 < _; omega))).trans (HB3.out j hj).1, (World.frozen?_of_block (a := ⟨w.heap.size + 1, j, none⟩) (blk _ (by show w.heap.size + 1 < _; omega))).trans (HB3.out j hj).2⟩)
  have hs1 := he.size
  clear hc he HB2 HB3 HSB EB blk
  go_wp2_with fail
  refine (l04Room_any g w1 HC.out).mono ?_
  rintro _ w2 ⟨B, k, d, L, rfl, hll, hrm, ho, hd⟩
  have HRM := hid hrm
  have HLL := hid hll
  obtain ⟨w3, hw3⟩ : ∃ w3, w3 = w2.alloc (.cells #[.slice B k d] 26) := ⟨_, rfl⟩
  have e3 : Ext w2 w3 := by rw [hw3]; repeat (first | exact Ext.refl _ | refine Ext.alloc ?_ _ | assumption | refine Ext.over ?_ _ | refine Ext.drew ?_ | refine Ext.drewN ?_ _)
  have HD3 := hid (hd.ext e3)
  have HO3 := hid (own_ext ho e3)
  have HR3 := hid (show Box w3 w2.heap.size (.slice B k d) from ⟨by rw [hw3]; go_simp, by rw [hw3]; go_simp⟩)
  have hbr : w1.heap.size ≤ w2.heap.size := hd.size
  go_wp2_with fail
  rw [← hw3]
  clear hw3 e3 ho hd hll hrm
  generalize w2.heap.size = br at HR3 hbr ⊢
  have hxr := HR3.out.1
  have hbg : ¬ br = g := by omega
  go_wp2_with fail
  refine (l08Point_any g B k d L w3 HD3.out.2 (Row.of_own HO3.out) HLL.out HRM.out.1).mono ?_
  rintro _ w4 ⟨p, rfl, hp, hd⟩
  obtain ⟨w5, hw5⟩ : ∃ w5, w5 = w4.alloc (.cells #[.int .i64 p.a, .int .i64 p.b] 28) := ⟨_, rfl⟩
  have e5 : Ext w4 w5 := by rw [hw5]; repeat (first | exact Ext.refl _ | refine Ext.alloc ?_ _ | assumption | refine Ext.over ?_ _ | refine Ext.drew ?_ | refine Ext.drewN ?_ _)
  have HP := hid hp
  have HD5 := hid ((HD3.out.trans hd).ext e5)
  have HO5 := hid (own_ext (hd.own HO3.out hgl) e5)
  have HR5 := hid ((HR3.out.grown hd.1 (by intro e; injection e with e; exact hbg e.symm)).ext e5)
  have p0 : w5.cell? ⟨w4.heap.size, 0, none⟩ = some (.int .i64 p.a) := by rw [hw5]; go_simp
  have p1 : w5.cell? ⟨w4.heap.size, 1, none⟩ = some (.int .i64 p.b) := by rw [hw5]; go_simp
  have hbp : w1.heap.size ≤ w4.heap.size := by have := hd.size; have := HD3.out.size; omega
  have HPN := hid (floor_near HRM.out (by omega) hp)
  go_wp2_with fail
  rw [← hw5]
  clear hw5 e5 hd hp HD3 HO3 HR3 hxr
  generalize w4.heap.size = bp at p0 p1 hbp ⊢
  have hxr := HR5.out.1
  have hpg : ¬ bp = g := by omega
  have hr2 : ¬ br = w.heap.size := by omega
  have hp2 : ¬ bp = w.heap.size := by omega
  have hg2 : ¬ g = w.heap.size := by omega
  refine wp_region_e (LaterG g w.heap.size) (laterG_steady _ _) [.q 0, .q 1, .q 2, .u 3, .u 4] 5 _ rfl (by kernel_rfl) (by kernel_rfl) (fun w6 e6 => ?_)
  have HD6 := hid (HD5.out.ext e6)
  have HO6 := hid (own_ext HO5.out e6)
  have p0 := old_cell e6 p0
  have p1 := old_cell e6 p1
  have hxr := old_cell e6 hxr
  clear e6 HD5 HO5 HR5
  simp only [pick, List.getElem?_cons_succ, List.getElem?_cons_zero]
  repeat (refine wpE_q (fun K hK => ?_); go_simp; refine hK _ ?_; clear hK K)
  refine wpE_u ?_
  refine stepH_of (fun K hK => ?_)
  go_simp
  refine (l25Camera_any g p w6 HD6.out.2 HPN.out).mono ?_
  rintro _ w7 ⟨x, rfl, hcd, hd⟩
  refine ⟨_, rfl, hK _ _ (laterG_of (Kept.grown hd.1)) ?_⟩; clear hK K
  have HCD := hid hcd
  have HD7 := hid (HD6.out.trans hd)
  have HO7 := hid (hd.own HO6.out hgl)
  have blk : ∀ b, b < w1.heap.size → b ≠ g → w7.heap[b]? = w1.heap[b]? := fun b hb hne => HD7.out.1.block b hb (by intro e; injection e with e; exact hne e)
  have H27 := hid (H2.out.blk (blk _ (by omega) (by omega)))
  have H37 := hid (show ∀ j, j < 7 → w7.cell? ⟨w.heap.size + 1, j, none⟩ = some (.int .i64 0) ∧ w7.frozen? ⟨w.heap.size + 1, j, none⟩ = false from fun j hj => ⟨(World.cell?_of_block (a := ⟨w.heap.size + 1, j, none⟩) (blk _ (by show w.heap.size + 1 < _; omega) (by show w.heap.size + 1 ≠ g; omega))).trans (H3.out j hj).1, (World.frozen?_of_block (a := ⟨w.heap.size + 1, j, none⟩) (blk _ (by show w.heap.size + 1 < _; omega) (by show w.heap.size + 1 ≠ g; omega))).trans (H3.out j hj).2⟩)
  have hc2 := H27.out.1
  have hf2 := H27.out.2
  clear hd hcd HD6 HO6 p0 p1 hxr blk H2 H3
  refine wpE_u ?_
  refine stepH_of (fun K hK => ?_)
  go_simp
  have hgr : w7.grownBy (w7.setCell ⟨w.heap.size, 0, none⟩ (.slice B k d)) (some w.heap.size) := only_setCell (g := w.heap.size) (p := ⟨w.heap.size, 0, none⟩) (World.grownBy.refl _ _) (.inl rfl) _
  refine hK _ _ (laterG_of (Kept.grown' hgr)) ?_; clear hK K
  obtain ⟨w8, hw8⟩ : ∃ w8, w8 = w7.setCell ⟨w.heap.size, 0, none⟩ (.slice B k d) := ⟨_, rfl⟩
  rw [← hw8] at hgr ⊢
  have hx2 := H27.out.put (.slice B k d)
  rw [← hw8] at hx2
  have HO8 := hid (HO7.out.kept hgr (.inr fun e => by have := (HO7.out.lt _ e).1; omega))
  have hb8 : w8.heap[w.heap.size + 1]? = w7.heap[w.heap.size + 1]? := by rw [hw8]; exact Below.heap_setCell _ _ _ _ (by show w.heap.size + 1 ≠ w.heap.size; omega)
  have H38 := hid (show ∀ j, j < 7 → w8.cell? ⟨w.heap.size + 1, j, none⟩ = some (.int .i64 0) ∧ w8.frozen? ⟨w.heap.size + 1, j, none⟩ = false from fun j hj => ⟨(World.cell?_of_block (a := ⟨w.heap.size + 1, j, none⟩) hb8).trans (H37.out j hj).1, (World.frozen?_of_block (a := ⟨w.heap.size + 1, j, none⟩) hb8).trans (H37.out j hj).2⟩)
  have HE8 := hid (show Ext w w8 by rw [hw8]; exact (HD7.out.out HE.out (by omega)).setCell (by exact Nat.le_refl _) _)
  have hc2 := hx2.1
  clear hw8 hgr hb8 H37 HD7 H27 hx2 hf2
  obtain ⟨z0, f0⟩ := H38.out 0 (by omega)
  obtain ⟨z1, f1⟩ := H38.out 1 (by omega)
  obtain ⟨z2, f2⟩ := H38.out 2 (by omega)
  obtain ⟨z3, f3⟩ := H38.out 3 (by omega)
  obtain ⟨z4, f4⟩ := H38.out 4 (by omega)
  obtain ⟨z5, f5⟩ := H38.out 5 (by omega)
  obtain ⟨z6, f6⟩ := H38.out 6 (by omega)
  refine wpE_nil (fun K hK => ?_)
  go_simp
  refine hK _ _ ?_; clear hK K
  go_wp2_with fail
  refine bodyPost_ret (v := .tuple #[.agg #[.slice B k d], .agg #[.int .i64 x.a, .int .i64 x.b, .int .i64 x.c, .int .i64 x.d, .int .i64 x.e, .int .i64 x.f, .int .i64 x.g]]) (by first | (simp [results, Try.results6, go_sem, z0, z1, z2, z3, z4, z5, z6, hc2]; done) | (unfold results; rw [Try.results6]; go_simp)) rfl ?_
  have HCA := hid HCD.out.near
  refine ⟨B, k, d, L, x, rfl, HLL.out, HRM.out, by rw [HCA.out]; exact HP.out, by rw [HCA.out]; exact HCD.out, Row.of_own (own_farR (own_farR (own_farR (own_farR (own_farR (own_farR (own_farR HO8.out (p := ⟨w.heap.size + 1, 0, none⟩) (by show w.heap.size + 1 < w1.heap.size; omega) _) (p := ⟨w.heap.size + 1, 1, none⟩) (by show w.heap.size + 1 < w1.heap.size; omega) _) (p := ⟨w.heap.size + 1, 2, none⟩) (by show w.heap.size + 1 < w1.heap.size; omega) _) (p := ⟨w.heap.size + 1, 3, none⟩) (by show w.heap.size + 1 < w1.heap.size; omega) _) (p := ⟨w.heap.size + 1, 4, none⟩) (by show w.heap.size + 1 < w1.heap.size; omega) _) (p := ⟨w.heap.size + 1, 5, none⟩) (by show w.heap.size + 1 < w1.heap.size; omega) _) (p := ⟨w.heap.size + 1, 6, none⟩) (by show w.heap.size + 1 < w1.heap.size; omega) _), (((((((HE8.out.setCell (by exact Nat.le_succ _) _).setCell (by exact Nat.le_succ _) _).setCell (by exact Nat.le_succ _) _).setCell (by exact Nat.le_succ _) _).setCell (by exact Nat.le_succ _) _).setCell (by exact Nat.le_succ _) _).setCell (by exact Nat.le_succ _) _)⟩
end Go.Proofs.Ytelmpiaaaffmlaa
/- Walks of the helpers of the laws that draw. Conditions: sizes. -/
namespace Go.Proofs.Ytelmpiaaaffmlaa
open Go.RowKit
set_option linter.unusedVariables false

theorem big_any (A : Option Addr) (n c : Nat) (w : World) : Gives Try.prog 5 #[.slice A n c] w (.bool (decide ((1048576 : Int) < n))) := by
  (unfold Gives; go_enter Try.func5, Try.ntmps5)
  go_wp2_with fail
  go_ret
  exact ⟨rfl, by repeat (first | exact Ext.refl _ | refine Ext.alloc ?_ _ | assumption | refine Ext.over ?_ _ | refine Ext.drew ?_ | refine Ext.drewN ?_ _)⟩
/-- A number out of the bytes. -/
def atV (bs : List Int) (i : Nat) : Int := if bs.length = 0 then 0 else bs.getD ((i * 5 + 1) % bs.length) 0
theorem atV_bound {bs : List Int} (hz : ∀ z ∈ bs, 0 ≤ z ∧ z ≤ 255) (i : Nat) : 0 ≤ atV bs i ∧ atV bs i ≤ 255 := by
  unfold atV
  split
  · omega
  · rename_i h
    have hlt : (i * 5 + 1) % bs.length < bs.length := Nat.mod_lt _ (by omega)
    rw [List.getD_eq_getElem?_getD, List.getElem?_eq_getElem hlt]
    exact hz _ (List.getElem_mem hlt)
theorem at_any (A : Option Addr) (n c : Nat) (bs : List Int) (i : Nat) (w : World) (hl : Row w A (bs.map (Value.int .u8))) (hn : bs.length = n) (hx : n ≤ 1048576) (hi : i ≤ 100) (hz : ∀ z ∈ bs, 0 ≤ z ∧ z ≤ 255) :
    Gives Try.prog 18 #[.slice A n c, .int .i64 i] w (.int .i64 (atV bs i)) := by
  subst hn
  have HZ := hid hz
  clear hz
  by_cases h0 : bs.length = 0
  · have HV := hid (show atV bs i = 0 by unfold atV; rw [if_pos h0])
    (unfold Gives; go_enter Try.func18, Try.ntmps18)
    go_wp2_with fail
    go_ret
    exact ⟨by rw [HV.out]; rfl, by repeat (first | exact Ext.refl _ | refine Ext.alloc ?_ _ | assumption | refine Ext.over ?_ _ | refine Ext.drew ?_ | refine Ext.drewN ?_ _)⟩
  · have hne : ((bs.length : Int) == 0) = false := by rw [beq_eq_false_iff_ne]; omega
    have hlt : (i * 5 + 1) % bs.length < bs.length := Nat.mod_lt _ (by omega)
    obtain ⟨j, hj⟩ : ∃ j, j = (i * 5 + 1) % bs.length := ⟨_, rfl⟩
    rw [← hj] at hlt
    have hmod : ((i : Int) * 5 + 1) % (bs.length : Int) = (j : Int) := by rw [hj, Int.natCast_emod]; rfl
    have HV := hid (show atV bs i = bs[j] by unfold atV; rw [if_neg h0, ← hj, List.getD_eq_getElem?_getD, List.getElem?_eq_getElem hlt]; rfl)
    obtain ⟨b, off, rfl, hc⟩ := hl.at_ (j := j) (by simpa using hlt)
    have hbyte := hc j _ (by rw [List.getElem?_map, List.getElem?_eq_getElem hlt]; rfl)
    have hbz := HZ.out _ (List.getElem_mem hlt)
    generalize bs[j] = y at hbyte hbz HV
    clear hc hj
    (unfold Gives; go_enter Try.func18, Try.ntmps18)
    go_wp2_with fail
    go_ret
    exact ⟨by rw [HV.out]; rfl, by repeat (first | exact Ext.refl _ | refine Ext.alloc ?_ _ | assumption | refine Ext.over ?_ _ | refine Ext.drew ?_ | refine Ext.drewN ?_ _)⟩
end Go.Proofs.Ytelmpiaaaffmlaa
