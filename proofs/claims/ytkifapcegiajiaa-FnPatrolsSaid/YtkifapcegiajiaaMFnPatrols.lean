/- Texts merged: lemmas and walks under FnPatrols. No condition. -/
import Derived.Test.YtkifapcegiajiaaGap
import Derived.Test.YtkifapcegiajiaaFloorS
import Derived.Test.YtkifapcegiajiaaFloorP
import Derived.Test.YtkifapcegiajiaaWallSee
import Derived.Test.YtkifapcegiajiaaRows
import Derived.Test.YtkifapcegiajiaaPush
import Derived.Laws.BitsLemmas
import Derived.Laws.IdiomCopy
import Derived.Test.YtkifapcegiajiaaSymm
import Derived.Test.YtkifapcegiajiaaRowM
import Derived.Test.YtkifapcegiajiaaHer5
import Derived.Test.YtkifapcegiajiaaHer4
import Derived.Test.YtkifapcegiajiaaRoomS
import Derived.Test.YtkifapcegiajiaaPointsOf
import Derived.Laws.OwnMore
/- Walks: seenBySome, SeesAll, WatchesAll, WorstGap. Conditions: at most 1048577 corners and points. -/
namespace Go.Proofs.Ytkifapcegiajiaa
open Go.RowKit
set_option linter.unusedVariables false

def seenAny (L P : List T2) (p : T2) : Bool := !allN P.length (fun k => !seenF L P p k)
theorem seenAny_yes {L P : List T2} {p : T2} {k : Nat} (hk : k < P.length) (h : seenF L P p k = true) : seenAny L P p = true := by
  unfold seenAny; rw [allN_false hk (by rw [h]; rfl)]; rfl
theorem seenAny_no {L P : List T2} {p : T2} (h : ∀ k, k < P.length → seenF L P p k = false) : seenAny L P p = false := by
  unfold seenAny; rw [allN_true fun k hk => by rw [h k hk]; rfl]; rfl
def floorSeen (L P : List T2) : Bool := allN (floorL L).length fun j => seenAny L P (at2 (floorL L) j)
def seesAllR (L P : List T2) : Bool := allIn L P && floorSeen L P
def watchR (L P : List T2) : Bool := patrolR L P && floorSeen L P
theorem watch_all (L P : List T2) : watchR L P = (patrolR L P && seesAllR L P) := by
  unfold watchR seesAllR
  cases h : patrolR L P
  · rfl
  · rw [patrol_in h]; rfl
def gapF (L P : List T2) (j : Nat) : Int := gapZ (idxs (seenF L P (at2 (floorL L) j)) P.length) P.length
def maxF (f : Nat → Int) : Nat → Int
  | 0 => 0
  | k + 1 => max (maxF f k) (f k)
def worstR (L P : List T2) : Int := if watchR L P then maxF (gapF L P) (floorL L).length else -1
theorem idxs_some {q : Nat → Bool} {n : Nat} : (idxs q n).length = 0 ↔ ∀ k, k < n → q k = false := by
  constructor
  · intro h k hk
    cases hq : q k
    · rfl
    · have hm : (k : Int) ∈ idxs q n := idxs_mem.2 ⟨k, rfl, hk, hq⟩
      rw [List.eq_nil_of_length_eq_zero h] at hm
      cases hm
  · intro h
    rcases Nat.eq_zero_or_pos (idxs q n).length with h0 | h0
    · exact h0
    · obtain ⟨j, _, h2, h3⟩ := idxs_mem.1 (List.getElem_mem h0)
      rw [h j h2] at h3; cases h3
theorem gapN_mono (l : List Int) (z : Int) : ∀ k, gapN l z 0 ≤ gapN l z k
  | 0 => Int.le_refl _
  | k + 1 => by have := gapN_mono l z k; simp only [gapN] at *; omega
theorem gap_pos {q : Nat → Bool} {n : Nat} (h : (idxs q n).length ≠ 0) : 1 ≤ gapZ (idxs q n) n := by
  unfold gapZ
  rw [if_neg h]
  have h1 := idxs_bd (p := q) (n := n) (k := 0) (by omega)
  have h2 := idxs_bd (p := q) (n := n) (k := (idxs q n).length - 1) (by omega)
  have h3 := gapN_mono (idxs q n) n ((idxs q n).length - 1)
  simp only [gapN] at h3 h3
  have : gapN (idxs q n) n 0 = atI (idxs q n) 0 + n - atI (idxs q n) ((idxs q n).length - 1) := rfl
  omega
theorem gap_neg {q : Nat → Bool} {n : Nat} : (idxs q n).length = 0 ↔ gapZ (idxs q n) n < 0 := by
  constructor
  · intro h; unfold gapZ; rw [if_pos h]; omega
  · intro h
    rcases Nat.eq_zero_or_pos (idxs q n).length with h0 | h0
    · exact h0
    · have := gap_pos (q := q) (n := n) (by omega); omega
theorem gap_le {q : Nat → Bool} {n : Nat} : -1 ≤ gapZ (idxs q n) n ∧ gapZ (idxs q n) n ≤ 2 * n := by
  rcases Nat.eq_zero_or_pos (idxs q n).length with h0 | h0
  · unfold gapZ; rw [if_pos h0]; omega
  · have h1 := gap_pos (q := q) (n := n) (by omega)
    have h2 := gapN_bd (l := idxs q n) (z := n) (M := n) (by omega) (fun k hk => by have := idxs_bd hk; omega) ((idxs q n).length - 1) (by omega)
    have : gapZ (idxs q n) n = gapN (idxs q n) n ((idxs q n).length - 1) := by unfold gapZ; rw [if_neg (by omega)]
    omega
theorem seen_gap (L P : List T2) (j : Nat) : seenAny L P (at2 (floorL L) j) = decide (0 ≤ gapF L P j) := by
  rw [Bool.eq_iff_iff, decide_eq_true_iff]
  unfold gapF
  constructor
  · intro h
    rcases Int.lt_or_le (gapZ (idxs (seenF L P (at2 (floorL L) j)) P.length) P.length) 0 with h1 | h1
    · have := seenAny_no (idxs_some.1 (gap_neg.2 h1))
      rw [this] at h; cases h
    · exact h1
  · intro h
    cases hs : seenAny L P (at2 (floorL L) j)
    · unfold seenAny at hs
      simp only [Bool.not_eq_false'] at hs
      have : (idxs (seenF L P (at2 (floorL L) j)) P.length).length = 0 := idxs_some.2 fun k hk => by have := allN_iff.1 hs k hk; simpa using this
      have := gap_neg.1 this
      omega
    · rfl
theorem maxF_bd {f : Nat → Int} {M : Int} (hM : 0 ≤ M) : ∀ k, (∀ j, j < k → f j ≤ M) → 0 ≤ maxF f k ∧ maxF f k ≤ M
  | 0, _ => by simp only [maxF]; omega
  | k + 1, h => by
    have ih := maxF_bd (f := f) hM k (fun j hj => h j (by omega))
    have := h k (by omega)
    simp only [maxF]; omega
theorem maxF_ge {f : Nat → Int} : ∀ k j, j < k → f j ≤ maxF f k
  | 0, j, h => by omega
  | k + 1, j, h => by
    simp only [maxF]
    rcases Nat.lt_or_ge j k with h' | h'
    · have := maxF_ge (f := f) k j h'; omega
    · obtain rfl : j = k := by omega
      omega
set_option maxRecDepth 100000 in
set_option maxHeartbeats 1600000 in
theorem bySome_any (A : Option Addr) (n c : Nat) (L : List T2) (B : Option Addr) (m d : Nat) (P : List T2) (p : T2) (w : World) (hl : Row w A (L.flatMap T2.v)) (hn : L.length = n) (hr : Row w B (P.flatMap T2.v)) (hm : P.length = m) (hy : m ≤ 1048577) (hro : roomS L = true) (hP : ∀ k, k < P.length → pokT (at2 P k) = true) (hp : pokT p = true) :
    Gives Try.prog 52 #[.agg #[.slice A n c], .slice B m d, .agg #[.int .i64 p.a, .int .i64 p.b]] w (.bool (seenAny L P p)) := by
  subst hm
  have HL := hid hl
  have HR := hid hr
  have HS := hid (fun k hk w' (h : Row w' A (L.flatMap T2.v)) => iSee_at A n c L (at2 P k) p w' h hn hro (hP k hk) hp)
  clear hl hr hro hP hp
  (unfold Gives; go_enter Try.func52, Try.ntmps52)
  go_wp2_with fail
  obtain ⟨wb, hwb⟩ : ∃ wb, wb = (w.alloc (.cells #[.slice A n c] 33)).alloc (.cells #[.int .i64 p.a, .int .i64 p.b] 35) := ⟨_, rfl⟩
  have hew : Ext w wb := by rw [hwb]; repeat (first | exact Ext.refl _ | refine Ext.alloc ?_ _ | assumption | refine Ext.over ?_ _ | refine Ext.drew ?_ | refine Ext.drewN ?_ _)
  have b0 : wb.cell? ⟨w.heap.size, 0, none⟩ = some (.slice A n c) := by rw [hwb]; go_simp
  have b1 : wb.cell? ⟨w.heap.size + 1, 0, none⟩ = some (.int .i64 p.a) := by rw [hwb]; go_simp
  have b2 : wb.cell? ⟨w.heap.size + 1, 1, none⟩ = some (.int .i64 p.b) := by rw [hwb]; go_simp
  have HT := hid hew
  rw [← hwb]
  generalize w.heap.size = gr at b0 b1 b2 ⊢
  clear hwb hew
  go_loopw [11] (fun kv wr => ∃ (k : Nat), k ≤ P.length ∧ kv = .int .i64 ↑k ∧ (∀ j, j < k → seenF L P p j = false) ∧ Ext wb wr) (fun kv _ => P.length - (intOf kv).toNat)
  case atStart => exact ⟨0, by omega, rfl, by omega, Ext.refl _⟩
  case round =>
    obtain ⟨k, hk, rfl, hall, he⟩ := hrel
    have HA := hid hall
    have HE := hid he
    have HX := hid (HT.out.trans he)
    have r0 := old_cell he b0
    have r1 := old_cell he b1
    have r2 := old_cell he b2
    clear hall he
    by_cases hlt : k < P.length
    · obtain ⟨bk, off, hB, hc⟩ := (HR.out.ext HX.out).t2 hlt
      obtain ⟨c1, c2⟩ := hc k hlt
      have hkt : (k : Int) < P.length := by omega
      have HSS := hid (HS.out k hlt)
      have HYES := hid (fun (h : seesS L (at2 P k) p = true) => seenAny_yes (L := L) (p := p) hlt h)
      have HNO := hid (fun (h : seesS L (at2 P k) p = false) => lt_succ_all (P := fun j => seenF L P p j = false) (k := k) HA.out h)
      subst hB
      clear hc
      generalize at2 P k = g at c1 c2 HSS HYES HNO
      cases hv : seesS L g p
      · have HN := hid (HNO.out hv)
        go_wp2_with (go_at_call 39; refine (gives_b hv (HSS.out _ (HL.out.ext (HX.out.trans (by repeat (first | exact Ext.refl _ | refine Ext.alloc ?_ _ | assumption | refine Ext.over ?_ _ | refine Ext.drew ?_ | refine Ext.drewN ?_ _)))))).over.mono ?_; rintro e w' ⟨rfl, xw, rfl⟩)
        go_roundw
        case rel => exact ⟨k + 1, by omega, by go_num, HN.out, HE.out.trans (by repeat (first | exact Ext.refl _ | refine Ext.alloc ?_ _ | assumption | refine Ext.over ?_ _ | refine Ext.drew ?_ | refine Ext.drewN ?_ _))⟩
        case measure => simp [intOf]; omega
      · have HV := hid (HYES.out hv)
        go_wp2_with (go_at_call 39; refine (gives_b hv (HSS.out _ (HL.out.ext (HX.out.trans (by repeat (first | exact Ext.refl _ | refine Ext.alloc ?_ _ | assumption | refine Ext.over ?_ _ | refine Ext.drew ?_ | refine Ext.drewN ?_ _)))))).over.mono ?_; rintro e w' ⟨rfl, xw, rfl⟩)
        go_ret
        exact ⟨by rw [HV.out]; rfl, HX.out.trans (by repeat (first | exact Ext.refl _ | refine Ext.alloc ?_ _ | assumption | refine Ext.over ?_ _ | refine Ext.drew ?_ | refine Ext.drewN ?_ _))⟩
    · obtain rfl : k = P.length := by omega
      have HV := hid (seenAny_no HA.out)
      go_wp2_with fail
      go_ret
      exact ⟨by rw [HV.out]; rfl, HX.out⟩
theorem floor_pok {L : List T2} (hr : roomS L = true) {k : Nat} (hk : k < (floorL L).length) : pokT (at2 (floorL L) k) = true := (floor_at hr hk).1
set_option maxRecDepth 100000 in
set_option maxHeartbeats 1600000 in
theorem seesAll_any (A : Option Addr) (n c : Nat) (L : List T2) (B : Option Addr) (m d : Nat) (P : List T2) (w : World) (hl : Row w A (L.flatMap T2.v)) (hn : L.length = n) (hx : n ≤ 1048577) (hr : Row w B (P.flatMap T2.v)) (hm : P.length = m) (hy : m ≤ 1048577) : Gives Try.prog 25 #[.agg #[.slice A n c], .slice B m d] w (.bool (seesAllR L P)) := by
  subst hm
  have HL := hid hl
  have HR := hid hr
  clear hl hr
  cases hal : allIn L P
  · have HV := hid (show seesAllR L P = false by unfold seesAllR; rw [hal]; rfl)
    (unfold Gives; go_enter Try.func25, Try.ntmps25)
    go_wp2_with (go_at_call 37; refine (gives_b hal (allIn_any A n c L B P.length d P _ (HL.out.ext (by repeat (first | exact Ext.refl _ | refine Ext.alloc ?_ _ | assumption | refine Ext.over ?_ _ | refine Ext.drew ?_ | refine Ext.drewN ?_ _))) hn hx (HR.out.ext (by repeat (first | exact Ext.refl _ | refine Ext.alloc ?_ _ | assumption | refine Ext.over ?_ _ | refine Ext.drew ?_ | refine Ext.drewN ?_ _))) rfl hy)).over.mono ?_; rintro e w' ⟨rfl, xw, rfl⟩)
    go_ret
    exact ⟨by rw [HV.out]; rfl, by repeat (first | exact Ext.refl _ | refine Ext.alloc ?_ _ | assumption | refine Ext.over ?_ _ | refine Ext.drew ?_ | refine Ext.drewN ?_ _)⟩
  have HV := hid (show seesAllR L P = allN (floorL L).length fun j => seenAny L P (at2 (floorL L) j) by unfold seesAllR; rw [hal]; rfl)
  have hro := allIn_room hal
  have HFO := hid (fun k hk => floor_pok hro (k := k) hk)
  have hfl := floor_len hro
  have HS := hid (fun p (hp : pokT p = true) w' (h : Row w' A (L.flatMap T2.v)) (h' : Row w' B (P.flatMap T2.v)) => bySome_any A n c L B P.length d P p w' h hn h' rfl hy hro (fun k hk => (allIn_at hal hk).1) hp)
  (unfold Gives; go_enter Try.func25, Try.ntmps25)
  go_wp2_with fail
  refine (gives_b hal (allIn_any A n c L B P.length d P _ (HL.out.ext (by repeat (first | exact Ext.refl _ | refine Ext.alloc ?_ _ | assumption | refine Ext.over ?_ _ | refine Ext.drew ?_ | refine Ext.drewN ?_ _))) hn hx (HR.out.ext (by repeat (first | exact Ext.refl _ | refine Ext.alloc ?_ _ | assumption | refine Ext.over ?_ _ | refine Ext.drew ?_ | refine Ext.drewN ?_ _))) rfl hy)).mono ?_
  rintro _ w1 ⟨rfl, e1⟩
  have b0 : w1.cell? ⟨w.heap.size, 0, none⟩ = some (.slice A n c) := old_cell e1 (by go_simp)
  have E1 := hid (Ext.trans (show Ext w _ by repeat (first | exact Ext.refl _ | refine Ext.alloc ?_ _ | assumption | refine Ext.over ?_ _ | refine Ext.drew ?_ | refine Ext.drewN ?_ _)) e1)
  clear e1
  go_wp2_with fail
  refine (floor_any A n c L _ (HL.out.ext E1.out) hn hro).mono ?_
  rintro _ w2 ⟨D, q, c1, rfl, ho, he⟩
  have hq := own_len2 ho
  have b0 := old_cell he b0
  have H1 := hid (E1.out.trans he)
  have HD := hid (Row.of_own ho)
  generalize w.heap.size = gr at b0 ⊢
  generalize hF : floorL L = F at *
  subst hq
  clear ho he hro hal
  go_wp2_with fail
  go_loopw [14] (fun kv wr => ∃ (k : Nat), k ≤ F.length ∧ kv = .int .i64 ↑k ∧ (∀ j, j < k → seenAny L P (at2 F j) = true) ∧ Ext w2 wr) (fun kv _ => F.length - (intOf kv).toNat)
  case atStart => exact ⟨0, by omega, rfl, by omega, Ext.refl _⟩
  case round =>
    obtain ⟨k, hk, rfl, hall, he⟩ := hrel
    have HA := hid hall
    have HE := hid he
    have HX := hid (H1.out.trans he)
    have r0 := old_cell he b0
    clear hall he
    by_cases hlt : k < F.length
    · obtain ⟨blk, off, hB, hc⟩ := (HD.out.ext HE.out).t2 hlt
      obtain ⟨c1, c2⟩ := hc k hlt
      have HM := hid (HS.out (at2 F k) (HFO.out k hlt))
      have HNO := hid (fun (h : seenAny L P (at2 F k) = false) => (show allN F.length (fun j => seenAny L P (at2 F j)) = false from allN_false hlt h))
      have HYES := hid (fun (h : seenAny L P (at2 F k) = true) => lt_succ_all (P := fun j => seenAny L P (at2 F j) = true) (k := k) HA.out h)
      subst hB
      clear hc
      generalize at2 F k = p at c1 c2 HM HNO HYES
      cases hv : seenAny L P p
      · have HV2 := hid (HV.out.trans (HNO.out hv))
        go_wp2_with (go_at_call 52; refine (gives_b hv (HM.out _ (HL.out.ext (HX.out.trans (by repeat (first | exact Ext.refl _ | refine Ext.alloc ?_ _ | assumption | refine Ext.over ?_ _ | refine Ext.drew ?_ | refine Ext.drewN ?_ _)))) (HR.out.ext (HX.out.trans (by repeat (first | exact Ext.refl _ | refine Ext.alloc ?_ _ | assumption | refine Ext.over ?_ _ | refine Ext.drew ?_ | refine Ext.drewN ?_ _)))))).over.mono ?_; rintro e w' ⟨rfl, xw, rfl⟩)
        go_ret
        exact ⟨by rw [HV2.out]; rfl, HX.out.trans (by repeat (first | exact Ext.refl _ | refine Ext.alloc ?_ _ | assumption | refine Ext.over ?_ _ | refine Ext.drew ?_ | refine Ext.drewN ?_ _))⟩
      · have HN := hid (HYES.out hv)
        go_wp2_with (go_at_call 52; refine (gives_b hv (HM.out _ (HL.out.ext (HX.out.trans (by repeat (first | exact Ext.refl _ | refine Ext.alloc ?_ _ | assumption | refine Ext.over ?_ _ | refine Ext.drew ?_ | refine Ext.drewN ?_ _)))) (HR.out.ext (HX.out.trans (by repeat (first | exact Ext.refl _ | refine Ext.alloc ?_ _ | assumption | refine Ext.over ?_ _ | refine Ext.drew ?_ | refine Ext.drewN ?_ _)))))).over.mono ?_; rintro e w' ⟨rfl, xw, rfl⟩)
        go_roundw
        case rel => exact ⟨k + 1, by omega, by go_num, HN.out, HE.out.trans (by repeat (first | exact Ext.refl _ | refine Ext.alloc ?_ _ | assumption | refine Ext.over ?_ _ | refine Ext.drew ?_ | refine Ext.drewN ?_ _))⟩
        case measure => simp [intOf]; omega
    · obtain rfl : k = F.length := by omega
      have HV2 := hid (show seesAllR L P = true by rw [HV.out]; exact allN_true HA.out)
      go_wp2_with fail
      go_ret
      exact ⟨by rw [HV2.out]; rfl, HX.out⟩
set_option maxRecDepth 100000 in
theorem iWatches_any (A : Option Addr) (n c : Nat) (L : List T2) (B : Option Addr) (m d : Nat) (P : List T2) (w : World) (hl : Row w A (L.flatMap T2.v)) (hn : L.length = n) (hx : n ≤ 1048577) (hr : Row w B (P.flatMap T2.v)) (hm : P.length = m) (hy : m ≤ 1048577) : Gives Try.prog 23 #[.agg #[.slice A n c], .slice B m d] w (.bool (watchR L P)) := by
  have HL := hid hl
  have HR := hid hr
  clear hl hr
  rw [watch_all]
  cases hp : patrolR L P
  all_goals
    (unfold Gives; go_enter Try.func23, Try.ntmps23)
    go_wp2_with (first | (go_at_call 22; refine (gives_b hp (iPatrol_any A n c L B m d P _ (HL.out.ext (by repeat (first | exact Ext.refl _ | refine Ext.alloc ?_ _ | assumption | refine Ext.over ?_ _ | refine Ext.drew ?_ | refine Ext.drewN ?_ _))) hn hx (HR.out.ext (by repeat (first | exact Ext.refl _ | refine Ext.alloc ?_ _ | assumption | refine Ext.over ?_ _ | refine Ext.drew ?_ | refine Ext.drewN ?_ _))) hm hy)).over.mono ?_; rintro e w' ⟨rfl, xw, rfl⟩) | (go_at_call 25; refine (seesAll_any A n c L B m d P _ (HL.out.ext (by repeat (first | exact Ext.refl _ | refine Ext.alloc ?_ _ | assumption | refine Ext.over ?_ _ | refine Ext.drew ?_ | refine Ext.drewN ?_ _))) hn hx (HR.out.ext (by repeat (first | exact Ext.refl _ | refine Ext.alloc ?_ _ | assumption | refine Ext.over ?_ _ | refine Ext.drew ?_ | refine Ext.drewN ?_ _))) hm hy).over.mono ?_; rintro e w' ⟨rfl, xw, rfl⟩))
    go_ret
    exact ⟨rfl, by repeat (first | exact Ext.refl _ | refine Ext.alloc ?_ _ | assumption | refine Ext.over ?_ _ | refine Ext.drew ?_ | refine Ext.drewN ?_ _)⟩
theorem patrol_room {L P : List T2} (h : patrolR L P = true) : roomS L = true := allIn_room (patrol_in h)
theorem gapF_40 {L P : List T2} (h : P.length ≤ 40) (j : Nat) : -1 ≤ gapF L P j ∧ gapF L P j ≤ 80 := by
  have := gap_le (q := seenF L P (at2 (floorL L) j)) (n := P.length)
  unfold gapF; omega
set_option maxRecDepth 100000 in
set_option maxHeartbeats 1600000 in
theorem iWorst_any (A : Option Addr) (n c : Nat) (L : List T2) (B : Option Addr) (m d : Nat) (P : List T2) (w : World) (hl : Row w A (L.flatMap T2.v)) (hn : L.length = n) (hx : n ≤ 1048577) (hr : Row w B (P.flatMap T2.v)) (hm : P.length = m) (hy : m ≤ 1048577) : Gives Try.prog 21 #[.agg #[.slice A n c], .slice B m d] w (.int .i64 (worstR L P)) := by
  subst hm
  have HL := hid hl
  have HR := hid hr
  clear hl hr
  cases hw : watchR L P
  · have HV := hid (show worstR L P = -1 by unfold worstR; rw [hw]; rfl)
    (unfold Gives; go_enter Try.func21, Try.ntmps21)
    go_wp2_with (go_at_call 23; refine (gives_b hw (iWatches_any A n c L B P.length d P _ (HL.out.ext (by repeat (first | exact Ext.refl _ | refine Ext.alloc ?_ _ | assumption | refine Ext.over ?_ _ | refine Ext.drew ?_ | refine Ext.drewN ?_ _))) hn hx (HR.out.ext (by repeat (first | exact Ext.refl _ | refine Ext.alloc ?_ _ | assumption | refine Ext.over ?_ _ | refine Ext.drew ?_ | refine Ext.drewN ?_ _))) rfl hy)).over.mono ?_; rintro e w' ⟨rfl, xw, rfl⟩)
    go_ret
    exact ⟨by rw [HV.out]; rfl, by repeat (first | exact Ext.refl _ | refine Ext.alloc ?_ _ | assumption | refine Ext.over ?_ _ | refine Ext.drew ?_ | refine Ext.drewN ?_ _)⟩
  have hpo : patrolR L P = true := by unfold watchR at hw; simp only [Bool.and_eq_true] at hw; exact hw.1
  have hro := patrol_room hpo
  have h40 := patrol_len hpo
  have HV := hid (show worstR L P = maxF (gapF L P) (floorL L).length by unfold worstR; rw [hw]; rfl)
  have HFO := hid (fun k hk => floor_pok hro (k := k) hk)
  have hfl := floor_len hro
  have HG := hid (fun j => gapF_40 (L := L) h40.2 j)
  have HMX := hid (fun k => maxF_bd (f := gapF L P) (M := 80) (by omega) k (fun j _ => (HG.out j).2))
  have HS := hid (fun p (hp : pokT p = true) w' (h : Row w' A (L.flatMap T2.v)) (h' : Row w' B (P.flatMap T2.v)) => iSeen_any A n c L B P.length d P p w' h hn h' rfl hy hro (fun k hk => (allIn_at (patrol_in hpo) hk).1) hp)
  have HZ := hid (show (0 : Int) ≤ P.length ∧ (P.length : Int) ≤ 1048577 by omega)
  have HB := hid (fun (q : Nat → Bool) k (hk : k < (idxs q P.length).length) => (show 0 ≤ atI (idxs q P.length) k ∧ atI (idxs q P.length) k ≤ 1048577 by have := idxs_bd hk; omega))
  have HLN := hid (fun (q : Nat → Bool) => idxs_len q P.length)
  (unfold Gives; go_enter Try.func21, Try.ntmps21)
  go_wp2_with fail
  refine (gives_b hw (iWatches_any A n c L B P.length d P _ (HL.out.ext (by repeat (first | exact Ext.refl _ | refine Ext.alloc ?_ _ | assumption | refine Ext.over ?_ _ | refine Ext.drew ?_ | refine Ext.drewN ?_ _))) hn hx (HR.out.ext (by repeat (first | exact Ext.refl _ | refine Ext.alloc ?_ _ | assumption | refine Ext.over ?_ _ | refine Ext.drew ?_ | refine Ext.drewN ?_ _))) rfl hy)).mono ?_
  rintro _ w1 ⟨rfl, e1⟩
  have b0 : w1.cell? ⟨w.heap.size, 0, none⟩ = some (.slice A n c) := old_cell e1 (by go_simp)
  have E1 := hid (Ext.trans (show Ext w _ by repeat (first | exact Ext.refl _ | refine Ext.alloc ?_ _ | assumption | refine Ext.over ?_ _ | refine Ext.drew ?_ | refine Ext.drewN ?_ _)) e1)
  clear e1
  go_wp2_with fail
  refine (floor_any A n c L _ (HL.out.ext E1.out) hn hro).mono ?_
  rintro _ w2 ⟨D, q, c1, rfl, ho, he⟩
  have hq := own_len2 ho
  have b0 := old_cell he b0
  have H1 := hid (E1.out.trans he)
  have HD := hid (Row.of_own ho)
  have HGF := hid (fun j => (show gapF L P j = gapZ (idxs (seenF L P (at2 (floorL L) j)) P.length) P.length from rfl))
  generalize w.heap.size = gr at b0 ⊢
  generalize hF : floorL L = F at *
  generalize hgf : gapF L P = gf at *
  subst hq
  clear ho he hro hw hpo
  go_wp2_with fail
  go_loopw [5, 15] (fun mv kv wr => ∃ (k : Nat), k ≤ F.length ∧ kv = .int .i64 ↑k ∧ mv = .int .i64 (maxF gf k) ∧ Ext w2 wr) (fun _ kv _ => F.length - (intOf kv).toNat)
  case atStart => exact ⟨0, by omega, rfl, rfl, Ext.refl _⟩
  case round =>
    obtain ⟨k, hk, rfl, rfl, he⟩ := hrel
    have HE := hid he
    have HX := hid (H1.out.trans he)
    have r0 := old_cell he b0
    clear he
    by_cases hlt : k < F.length
    · obtain ⟨blk, off, hB, hc⟩ := (HD.out.ext HE.out).t2 hlt
      obtain ⟨c1, c2⟩ := hc k hlt
      have HM := hid (HS.out (at2 F k) (HFO.out k hlt))
      have HGK := hid (HGF.out k)
      have hg := HG.out k
      have hmx := HMX.out k
      have HST := hid (show maxF gf (k + 1) = max (maxF gf k) (gf k) from rfl)
      have HB2 := hid (HB.out (seenF L P (at2 F k)))
      have hln := HLN.out (seenF L P (at2 F k))
      subst hB
      clear hc
      generalize maxF gf k = mx at hmx HST ⊢
      generalize gf k = g at hg HST HGK
      generalize at2 F k = p at c1 c2 HM HGK HB2 hln
      go_wp2_with fail
      refine (HM.out _ (HL.out.ext (HX.out.trans (by repeat (first | exact Ext.refl _ | refine Ext.alloc ?_ _ | assumption | refine Ext.over ?_ _ | refine Ext.drew ?_ | refine Ext.drewN ?_ _)))) (HR.out.ext (HX.out.trans (by repeat (first | exact Ext.refl _ | refine Ext.alloc ?_ _ | assumption | refine Ext.over ?_ _ | refine Ext.drew ?_ | refine Ext.drewN ?_ _))))).mono ?_
      rintro _ w3 ⟨A3, m3, c3, rfl, ho, he⟩
      have hm3 := own_len1S ho
      have HE3 := hid (HE.out.trans (Ext.trans (by repeat (first | exact Ext.refl _ | refine Ext.alloc ?_ _ | assumption | refine Ext.over ?_ _ | refine Ext.drew ?_ | refine Ext.drewN ?_ _)) he))
      have HO3 := hid (Row.of_own ho)
      generalize idxs (seenF L P p) P.length = l at *
      subst hm3
      clear ho he
      go_wp2_with (go_at_call 47; refine (gives_v HGK.out.symm (gapOf_any A3 l.length c3 l P.length _ (HO3.out.ext (by repeat (first | exact Ext.refl _ | refine Ext.alloc ?_ _ | assumption | refine Ext.over ?_ _ | refine Ext.drew ?_ | refine Ext.drewN ?_ _))) rfl (by omega) HB2.out HZ.out)).over.mono ?_; rintro e w' ⟨rfl, xw, rfl⟩)
      go_roundw
      case rel => exact ⟨k + 1, by omega, by go_num, by rw [HST.out]; congr 1; first | omega | (split <;> omega), HE3.out.trans (by repeat (first | exact Ext.refl _ | refine Ext.alloc ?_ _ | assumption | refine Ext.over ?_ _ | refine Ext.drew ?_ | refine Ext.drewN ?_ _))⟩
      case measure => simp [intOf]; omega
    · obtain rfl : k = F.length := by omega
      go_wp2_with fail
      go_ret
      exact ⟨by rw [HV.out]; rfl, HX.out⟩
theorem worst_no {L P : List T2} {j : Nat} (hj : j < (floorL L).length) (h : gapF L P j < 0) : worstR L P = -1 := by
  unfold worstR watchR floorSeen
  rw [allN_false hj (by rw [seen_gap, decide_eq_false (by omega)]), Bool.and_false]
  rfl
theorem floor_ne {L : List T2} (hr : roomS L = true) : 0 < (floorL L).length := List.length_pos_of_mem (corner_floor hr (k := 0) (by have := (roomP_of hr).lo; omega))
theorem worst_pos (L P : List T2) : watchR L P = decide (0 < worstR L P) := by
  unfold worstR
  cases h : watchR L P
  · rw [if_neg (by simp)]; rfl
  · rw [if_pos rfl]
    unfold watchR at h
    simp only [Bool.and_eq_true] at h
    have h0 := floor_ne (patrol_room h.1)
    have h1 := allN_iff.1 h.2 0 h0
    rw [seen_gap, decide_eq_true_iff] at h1
    have h2 := maxF_ge (f := gapF L P) _ 0 h0
    have h3 : (idxs (seenF L P (at2 (floorL L) 0)) P.length).length ≠ 0 := fun e => by have := gap_neg.1 e; unfold gapF at h1; omega
    have h4 := gap_pos h3
    have h5 : gapF L P 0 = gapZ (idxs (seenF L P (at2 (floorL L) 0)) P.length) P.length := rfl
    rw [decide_eq_true (by omega)]
end Go.Proofs.Ytkifapcegiajiaa
/- Plain law of FnPatrols: walks along corners are patrols; gaps do not change when a patrol begins elsewhere. Conditions: a valid room. -/
namespace Go.Proofs.Ytkifapcegiajiaa
open Go.RowKit
set_option linter.unusedVariables false

theorem patrol_iff {L P : List T2} : patrolR L P = true ↔ (1 ≤ P.length ∧ P.length ≤ 40) ∧ roomS L = true ∧ (∀ k, k < P.length → pokT (at2 P k) = true ∧ ¬ placeI L (at2 P k) = 0) ∧ (∀ k, k + 1 < P.length → seesS L (at2 P k) (at2 P (k + 1)) = true) ∧ seesS L (at2 P 0) (at2 P (P.length - 1)) = true := by
  constructor
  · intro h
    have h1 := patrol_len h
    have h2 := patrol_in h
    refine ⟨h1, allIn_room h2, fun k hk => allIn_at h2 hk, ?_, ?_⟩
    · unfold patrolR walkR at h
      simp only [Bool.and_eq_true] at h
      have h3 := allN_iff.1 h.2.1.2.2
      exact fun k hk => h3 k (by omega)
    · unfold patrolR at h
      simp only [Bool.and_eq_true] at h
      exact h.2.2
  · rintro ⟨h1, h2, h3, h4, h5⟩
    unfold patrolR walkR allIn insI
    simp only [Bool.and_eq_true]
    refine ⟨btw_iff.2 (by omega), ⟨decide_eq_true h1.2, ⟨allN_iff.2 fun k hk => ?_, h2⟩, allN_iff.2 fun k hk => h4 k (by omega)⟩, h5⟩
    obtain ⟨a, b⟩ := h3 k hk
    unfold pokAt
    rw [a, beq_eq_false_iff_ne.2 b]; rfl
/-- A walk along corners. -/
structure WK (L P : List T2) : Prop where
  ne : 0 < P.length
  cor : ∀ x ∈ P, x ∈ L
  see : ∀ i, i + 1 < P.length → seesS L (at2 P i) (at2 P (i + 1)) = true
def lastP (P : List T2) : T2 := at2 P (P.length - 1)
theorem lastP_snoc (P : List T2) (x : T2) : lastP (P ++ [x]) = x := by
  unfold lastP
  rw [List.length_append, show P.length + [x].length - 1 = P.length by simp]
  exact at2_last P x
section
variable {L P : List T2}
theorem WK.snoc (h : WK L P) {x : T2} (hs : seesS L (lastP P) x = true) (hx : x ∈ L) : WK L (P ++ [x]) := by
  have hn := h.ne
  refine ⟨by simp, fun y hy => ?_, fun i hi => ?_⟩
  · rcases List.mem_append.1 hy with hy | hy
    · exact h.cor y hy
    · rw [show y = x by simpa using hy]; exact hx
  · simp only [List.length_append, List.length_cons, List.length_nil] at hi
    rcases Nat.lt_or_ge (i + 1) P.length with h1 | h1
    · rw [at2_app (by omega), at2_app h1]; exact h.see i h1
    · have e : i + 1 = P.length := by omega
      rw [e, at2_last, at2_app (by omega)]
      unfold lastP at hs
      rw [show i = P.length - 1 by omega]; exact hs
theorem WK.way {q : T2} : ∀ (r : List T2) {P : List T2}, WK L P → Chain L (lastP P) r q → (∀ x ∈ r, x ∈ L) → WK L (P ++ r) ∧ seesS L (lastP (P ++ r)) q = true
  | [], P, h, hc, _ => by rw [List.append_nil]; exact ⟨h, hc⟩
  | x :: r, P, h, hc, hr => by
    have h1 := h.snoc hc.1 (hr x (by simp))
    have := WK.way r h1 (by rw [lastP_snoc]; exact hc.2) (fun y hy => hr y (by simp [hy]))
    rwa [List.append_assoc, List.singleton_append] at this
theorem WK.patrol (hro : roomS L = true) (h : WK L P) (h40 : P.length ≤ 40) (hs : seesS L (lastP P) (at2 P 0) = true) : patrolR L P = true := by
  have hr := roomP_of hro
  have hne := h.ne
  have hc : ∀ k, k < P.length → ∃ i, i < L.length ∧ at2 L i = at2 P k := fun k hk => mem_at2 (h.cor _ (at2_mem hk))
  refine patrol_iff.2 ⟨⟨hne, h40⟩, hro, fun k hk => ?_, h.see, ?_⟩
  · obtain ⟨i, hi, e⟩ := hc k hk
    rw [← e]
    exact ⟨hr.pok i hi, by rw [place_corner hr hi]; omega⟩
  · obtain ⟨i, hi, e⟩ := hc 0 hne
    obtain ⟨j, hj, e'⟩ := hc (P.length - 1) (by omega)
    unfold lastP at hs
    rw [← e, ← e'] at hs ⊢
    rw [seesS_symm hr (hr.small i hi) (hr.small j hj)]; exact hs
end
/-! ### Gaps -/
def GE (l : List Int) (z v : Int) : Prop := v = atI l 0 + z - atI l (l.length - 1) ∨ ∃ k, k + 1 < l.length ∧ v = atI l (k + 1) - atI l k
theorem gapN_E {l : List Int} {z : Int} : ∀ k, k < l.length → GE l z (gapN l z k) ∧ (atI l 0 + z - atI l (l.length - 1) ≤ gapN l z k) ∧ ∀ j, j + 1 ≤ k → atI l (j + 1) - atI l j ≤ gapN l z k
  | 0, _ => ⟨.inl rfl, Int.le_refl _, fun j hj => by omega⟩
  | k + 1, hk => by
    obtain ⟨h1, h2, h3⟩ := gapN_E (l := l) (z := z) k (by omega)
    simp only [gapN]
    refine ⟨?_, by omega, fun j hj => ?_⟩
    · rcases Int.le_total (gapN l z k) (atI l (k + 1) - atI l k) with h | h
      · rw [Int.max_eq_right h]; exact .inr ⟨k, hk, rfl⟩
      · rw [Int.max_eq_left h]; exact h1
    · rcases Nat.lt_or_ge j k with h | h
      · have := h3 j (by omega); omega
      · obtain rfl : j = k := by omega
        omega
theorem gap_E {l : List Int} {z : Int} (hl : 0 < l.length) : GE l z (gapZ l z) ∧ ∀ v, GE l z v → v ≤ gapZ l z := by
  have e : gapZ l z = gapN l z (l.length - 1) := by unfold gapZ; rw [if_neg (by omega)]
  obtain ⟨h1, h2, h3⟩ := gapN_E (l := l) (z := z) (l.length - 1) (by omega)
  rw [e]
  refine ⟨h1, fun v hv => ?_⟩
  rcases hv with rfl | ⟨k, hk, rfl⟩
  · exact h2
  · exact h3 k (by omega)
theorem gap_same {l l' : List Int} {z : Int} (hl : 0 < l.length) (hl' : 0 < l'.length) (h : ∀ v, GE l z v → GE l' z v) (h' : ∀ v, GE l' z v → GE l z v) : gapZ l z = gapZ l' z := by
  have h1 := gap_E (z := z) hl
  have h2 := gap_E (z := z) hl'
  have h3 := h2.2 _ (h _ h1.1)
  have h4 := h1.2 _ (h' _ h2.1)
  omega
theorem atI_map1 {l : List Int} {k : Nat} (h : k < l.length) : atI (l.map fun x => x + 1) k = atI l k + 1 := by
  rw [atI_eq _ _ (by simpa using h), atI_eq _ _ h]; simp
theorem atI_cons {l : List Int} {x : Int} {k : Nat} : atI (x :: l) (k + 1) = atI l k := by simp [atI]
theorem atI_appL {l : List Int} {y : Int} {k : Nat} (h : k < l.length) : atI (l ++ [y]) k = atI l k := by
  rw [atI_eq _ _ (by rw [List.length_append]; omega), atI_eq _ _ h, List.getElem_append_left h]
theorem atI_appR {l : List Int} {y : Int} : atI (l ++ [y]) l.length = y := by
  rw [atI_eq _ _ (by simp), List.getElem_append_right (Nat.le_refl _)]; simp
theorem idxs_congr {f g : Nat → Bool} : ∀ {n : Nat}, (∀ i, i < n → f i = g i) → idxs f n = idxs g n
  | 0, _ => rfl
  | n + 1, h => by
    have ih := idxs_congr (f := f) (g := g) (n := n) (fun i hi => h i (by omega))
    have hn := h n (by omega)
    cases hg : g n
    · rw [hg] at hn; rw [idxs_no hn, idxs_no hg, ih]
    · rw [hg] at hn; rw [idxs_yes hn, idxs_yes hg, ih]
theorem idxs_shift (f : Nat → Bool) : ∀ m, idxs f (m + 1) = (if f 0 = true then [0] else []) ++ (idxs (fun i => f (i + 1)) m).map fun x => x + 1
  | 0 => by
    cases h : f 0
    · rw [idxs_no h]; rfl
    · rw [idxs_yes h]; rfl
  | m + 1 => by
    have ih := idxs_shift f m
    cases h : f (m + 1)
    · rw [idxs_no h, idxs_no (p := fun i => f (i + 1)) h, ih]
    · rw [idxs_yes h, idxs_yes (p := fun i => f (i + 1)) h, ih, List.map_append, List.append_assoc]; simp
theorem idxs_sortedP (q : Nat → Bool) : ∀ n, (idxs q n).Pairwise (· < ·)
  | 0 => by simp [idxs]
  | n + 1 => by
    cases h : q n
    · rw [idxs_no h]; exact idxs_sortedP q n
    · rw [idxs_yes h, List.pairwise_append]
      refine ⟨idxs_sortedP q n, by simp, fun x hx y hy => ?_⟩
      obtain ⟨j, rfl, hj, _⟩ := idxs_mem.1 hx
      obtain rfl : y = n := by simpa using hy
      omega
theorem gap_n {q : Nat → Bool} {n : Nat} : gapZ (idxs q n) n ≤ n := by
  rcases Nat.eq_zero_or_pos (idxs q n).length with h0 | h0
  · unfold gapZ; rw [if_pos h0]; omega
  · rcases (gap_E (z := (n : Int)) h0).1 with e | ⟨k, hk, e⟩
    · have h1 : atI (idxs q n) 0 ≤ atI (idxs q n) ((idxs q n).length - 1) := by
        rcases Nat.eq_zero_or_pos ((idxs q n).length - 1) with h2 | h2
        · rw [h2]; omega
        · rw [atI_eq _ _ h0, atI_eq _ _ (by omega)]
          have := List.pairwise_iff_getElem.1 (idxs_sortedP q n) 0 ((idxs q n).length - 1) h0 (by omega) h2
          omega
      omega
    · have h1 := idxs_bd (p := q) (n := n) (k := k) (by omega)
      have h2 := idxs_bd (p := q) (n := n) (k := k + 1) hk
      omega
/-- One place on. -/
theorem gap_rot {f f' : Nat → Bool} {m : Nat} (hf : ∀ i, i < m → f' i = f (i + 1)) (hl : f' m = f 0) : gapZ (idxs f' (m + 1)) ((m + 1 : Nat) : Int) = gapZ (idxs f (m + 1)) ((m + 1 : Nat) : Int) := by
  obtain ⟨l, hL⟩ : ∃ l, l = idxs f' m := ⟨_, rfl⟩
  have h1 : idxs f (m + 1) = (if f 0 = true then [0] else []) ++ l.map fun x => x + 1 := by
    rw [idxs_shift, hL, idxs_congr (f := f') (g := fun i => f (i + 1)) hf]
  cases h0 : f 0
  · have h2 : idxs f' (m + 1) = l := by rw [idxs_no (hl.trans h0), hL]
    rw [h0] at h1
    simp only [Bool.false_eq_true, if_false, List.nil_append] at h1
    rw [h1, h2]
    rcases Nat.eq_zero_or_pos l.length with hz | hz
    · rw [List.eq_nil_of_length_eq_zero hz]; rfl
    · refine gap_same hz (by simpa using hz) (fun v hv => ?_) (fun v hv => ?_)
      · rcases hv with rfl | ⟨k, hk, rfl⟩
        · left; rw [List.length_map, atI_map1 hz, atI_map1 (by omega)]; omega
        · right; exact ⟨k, by simpa using hk, by rw [atI_map1 hk, atI_map1 (by omega)]; omega⟩
      · rcases hv with rfl | ⟨k, hk, rfl⟩
        · left; rw [List.length_map, atI_map1 hz, atI_map1 (by omega)]; omega
        · rw [List.length_map] at hk
          right; exact ⟨k, hk, by rw [atI_map1 hk, atI_map1 (by omega)]; omega⟩
  · have h2 : idxs f' (m + 1) = l ++ [(m : Int)] := by rw [idxs_yes (hl.trans h0), hL]
    rw [h0] at h1
    simp only [if_true, List.singleton_append] at h1
    rw [h1, h2]
    have hlen : (l ++ [(m : Int)]).length = l.length + 1 := by simp
    have hlen2 : (0 :: l.map fun x => x + 1).length = l.length + 1 := by simp
    have b0 : atI (0 :: l.map fun x => x + 1) 0 = 0 := rfl
    refine gap_same (by omega) (by omega) (fun v hv => ?_) (fun v hv => ?_)
    · unfold GE at hv ⊢
      rw [hlen] at hv
      rw [hlen2]
      rcases hv with rfl | ⟨k, hk, rfl⟩
      · rw [show l.length + 1 - 1 = l.length by omega, atI_appR]
        rcases Nat.eq_zero_or_pos l.length with hz | hz
        · left
          rw [List.eq_nil_of_length_eq_zero hz]
          show (m : Int) + ((m + 1 : Nat) : Int) - m = 0 + ((m + 1 : Nat) : Int) - 0
          omega
        · right
          refine ⟨0, by omega, ?_⟩
          rw [b0, atI_cons, atI_map1 hz, atI_appL hz]; omega
      · rcases Nat.lt_or_ge (k + 1) l.length with h3 | h3
        · right
          refine ⟨k + 1, by omega, ?_⟩
          rw [atI_cons, atI_cons, atI_map1 h3, atI_map1 (by omega), atI_appL h3, atI_appL (by omega)]; omega
        · left
          have e : k + 1 = l.length := by omega
          rw [e, atI_appR, atI_appL (by omega), b0, show l.length + 1 - 1 = k + 1 by omega, atI_cons, atI_map1 (by omega)]
          omega
    · unfold GE at hv ⊢
      rw [hlen2] at hv
      rw [hlen]
      rcases hv with rfl | ⟨k, hk, rfl⟩
      · rcases Nat.eq_zero_or_pos l.length with hz | hz
        · left
          rw [List.eq_nil_of_length_eq_zero hz]
          show 0 + ((m + 1 : Nat) : Int) - 0 = (m : Int) + ((m + 1 : Nat) : Int) - m
          omega
        · right
          refine ⟨l.length - 1, by omega, ?_⟩
          rw [show l.length - 1 + 1 = l.length by omega, atI_appR, atI_appL (by omega), b0]
          have e : l.length + 1 - 1 = (l.length - 1) + 1 := by omega
          rw [e, atI_cons, atI_map1 (by omega)]; omega
      · cases k with
        | zero =>
          left
          rw [b0, atI_cons, show l.length + 1 - 1 = l.length by omega, atI_appR, atI_appL (by omega), atI_map1 (by omega)]; omega
        | succ k =>
          right
          refine ⟨k, by omega, ?_⟩
          rw [atI_cons, atI_cons, atI_map1 (by omega), atI_map1 (by omega), atI_appL (by omega), atI_appL (by omega)]; omega
/-! ### Another beginning -/
theorem at2_cons {R : List T2} {x : T2} {i : Nat} : at2 (x :: R) (i + 1) = at2 R i := by simp [at2]
/-- What a patrol has in common with one that begins elsewhere. -/
def Like (L P Q : List T2) : Prop := patrolR L Q = true ∧ Q.length = P.length ∧ ∀ y, gapZ (idxs (seenF L Q y) Q.length) Q.length = gapZ (idxs (seenF L P y) P.length) P.length
theorem like_one {L R : List T2} {x : T2} (h : patrolR L (x :: R) = true) : Like L (x :: R) (R ++ [x]) := by
  obtain ⟨h1, h2, h3, h4, h5⟩ := patrol_iff.1 h
  have hr := roomP_of h2
  simp only [List.length_cons] at h1 h3 h4 h5
  have hlen : (R ++ [x]).length = R.length + 1 := by simp
  have hat : ∀ i, i < R.length → at2 (R ++ [x]) i = at2 (x :: R) (i + 1) := fun i hi => by rw [at2_app hi, at2_cons]
  have hl : at2 (R ++ [x]) R.length = at2 (x :: R) 0 := at2_last R x
  have hsm : ∀ k, k < R.length + 1 → small (at2 (x :: R) k) := fun k hk => small_pok (h3 k hk).1
  refine ⟨patrol_iff.2 ⟨by omega, h2, fun k hk => ?_, fun k hk => ?_, ?_⟩, by simp, fun y => ?_⟩
  · rw [hlen] at hk
    rcases Nat.lt_or_ge k R.length with hk' | hk'
    · rw [hat k hk']; exact h3 (k + 1) (by omega)
    · rw [show k = R.length by omega, hl]; exact h3 0 (by omega)
  · rw [hlen] at hk
    rcases Nat.lt_or_ge (k + 1) R.length with hk' | hk'
    · rw [hat k (by omega), hat (k + 1) hk']; exact h4 (k + 1) (by omega)
    · have e : k + 1 = R.length := by omega
      rw [hat k (by omega), e, hl, seesS_symm hr (hsm _ (by omega)) (hsm 0 (by omega))]
      exact h5
  · rw [hlen, show R.length + 1 - 1 = R.length by omega, hl]
    rcases Nat.eq_zero_or_pos R.length with hz | hz
    · have e : at2 (R ++ [x]) 0 = at2 (x :: R) 0 := by have h6 := hl; rw [hz] at h6; exact h6
      rw [e]
      rw [hz] at h5
      exact h5
    · rw [hat 0 hz, seesS_symm hr (hsm 1 (by omega)) (hsm 0 (by omega))]
      exact h4 0 (by omega)
  · rw [hlen, List.length_cons]
    refine gap_rot (fun i hi => ?_) ?_
    · unfold seenF; rw [hat i hi]
    · unfold seenF; rw [hl]
theorem Like.trans {L P Q S : List T2} (h : Like L P Q) (k : Like L Q S) : Like L P S := ⟨k.1, k.2.1.trans h.2.1, fun y => (k.2.2 y).trans (h.2.2 y)⟩
theorem like_rot {L : List T2} : ∀ (k : Nat) (P : List T2), k ≤ P.length → patrolR L P = true → Like L P (P.drop k ++ P.take k)
  | 0, P, _, h => by simpa using ⟨h, rfl, fun y => rfl⟩
  | k + 1, [], hk, h => by simp at hk
  | k + 1, x :: R, hk, h => by
    have h1 := like_one h
    simp only [List.length_cons] at hk
    have h2 := like_rot k (R ++ [x]) (by simp; omega) h1.1
    have e : (R ++ [x]).drop k ++ (R ++ [x]).take k = (x :: R).drop (k + 1) ++ (x :: R).take (k + 1) := by
      rw [List.drop_append_of_le_length (by omega), List.take_append_of_le_length (by omega)]
      simp
    rw [e] at h2
    exact h1.trans h2
theorem like_gapF {L P Q : List T2} (h : Like L P Q) (j : Nat) : gapF L Q j = gapF L P j := h.2.2 _
theorem like_worst {L P Q : List T2} (hp : patrolR L P = true) (h : Like L P Q) : worstR L Q = worstR L P := by
  have hf : floorSeen L Q = floorSeen L P := by
    unfold floorSeen
    rw [Bool.eq_iff_iff, allN_iff, allN_iff]
    constructor
    · intro h1 j hj; have := h1 j hj; rw [seen_gap, like_gapF h] at this; rw [seen_gap]; exact this
    · intro h1 j hj; have := h1 j hj; rw [seen_gap] at this; rw [seen_gap, like_gapF h]; exact this
  have hg : gapF L Q = gapF L P := funext fun j => like_gapF h j
  unfold worstR watchR
  rw [hp, h.1, hf, hg]
theorem like_gapR {L P Q : List T2} (hp : patrolR L P = true) (h : Like L P Q) (y : T2) : gapR L Q y = gapR L P y := by
  unfold gapR seenL
  rw [hp, h.1]
  cases isIn L y
  · simp only [Bool.and_false]; rfl
  · exact h.2.2 y
/-- What the law says of a patrol, a point of the floor, its gap and the worst gap. -/
theorem law_gap {L P : List T2} (hp : patrolR L P = true) {j : Nat} (hj : j < (floorL L).length) : worstR L P < 0 ∨ (1 ≤ gapR L P (at2 (floorL L) j) ∧ gapR L P (at2 (floorL L) j) ≤ worstR L P ∧ worstR L P ≤ P.length) := by
  have hro := patrol_room hp
  have hin : isIn L (at2 (floorL L) j) = true := by
    have h1 := floor_at hro hj
    rw [isIn_val, hro, h1.1]
    simpa using h1.2
  have hg : gapR L P (at2 (floorL L) j) = gapF L P j := by
    unfold gapR seenL gapF
    rw [hp, hin]; rfl
  cases hw : watchR L P
  · left; unfold worstR; rw [hw]; simp
  · right
    have hw' := hw
    unfold watchR at hw
    simp only [Bool.and_eq_true] at hw
    have h1 := allN_iff.1 hw.2 j hj
    rw [seen_gap, decide_eq_true_iff] at h1
    have h2 : (idxs (seenF L P (at2 (floorL L) j)) P.length).length ≠ 0 := fun e => by have := gap_neg.1 e; unfold gapF at h1; omega
    have h3 := gap_pos h2
    have h4 := maxF_ge (f := gapF L P) _ j hj
    have h5 := maxF_bd (f := gapF L P) (M := P.length) (by omega) (floorL L).length (fun i _ => gap_n)
    have h6 : worstR L P = maxF (gapF L P) (floorL L).length := by unfold worstR; rw [hw']; rfl
    have h7 : gapF L P j = gapZ (idxs (seenF L P (at2 (floorL L) j)) P.length) P.length := rfl
    omega
theorem law_seen {L P : List T2} (y : T2) : gapR L P y < 0 ↔ (seenL L P y).length = 0 := by
  unfold gapR seenL
  split
  · exact gap_neg.symm
  · simp [gapZ]
end Go.Proofs.Ytkifapcegiajiaa
/-
  The cursor of the reference's draws, and its walks: a number below n is drawn, and nothing but the cursor has changed. Conditions: sizes.
-/
namespace Go.Proofs.Ytkifapcegiajiaa
open Go.RowKit
set_option linter.unusedVariables false

theorem and255 (n : Int) : bits .and .i64 n 255 = n % 256 := by
  have h127 : (BitVec.ofInt 64 255).toNat = 2 ^ 8 - 1 := by decide
  have key : (BitVec.ofInt 64 n &&& BitVec.ofInt 64 255).toNat = (n % ((2 ^ 64 : Nat) : Int)).toNat % 2 ^ 8 := by
    rw [BitVec.toNat_and, BitVec.toNat_ofInt, h127, Nat.and_two_pow_sub_one_eq_mod]
  show IntKind.i64.wrap ((BitVec.ofInt 64 n &&& BitVec.ofInt 64 255).toNat : Nat) = n % 256
  rw [key, IntKind.wrap_i64]
  omega
theorem and255_bd (n : Int) : 0 ≤ bits .and .i64 n 255 ∧ bits .and .i64 n 255 ≤ 255 := by rw [and255]; omega
theorem and30 (n : Int) : bits .and .i64 n 1073741823 = n % 1073741824 := by
  have h127 : (BitVec.ofInt 64 1073741823).toNat = 2 ^ 30 - 1 := by decide
  have key : (BitVec.ofInt 64 n &&& BitVec.ofInt 64 1073741823).toNat = (n % ((2 ^ 64 : Nat) : Int)).toNat % 2 ^ 30 := by
    rw [BitVec.toNat_and, BitVec.toNat_ofInt, h127, Nat.and_two_pow_sub_one_eq_mod]
  show IntKind.i64.wrap ((BitVec.ofInt 64 n &&& BitVec.ofInt 64 1073741823).toNat : Nat) = n % 1073741824
  rw [key, IntKind.wrap_i64]
  omega
theorem and30_bd (n : Int) : 0 ≤ bits .and .i64 n 1073741823 ∧ bits .and .i64 n 1073741823 ≤ 1073741823 := by rw [and30]; omega

/-- The cursor lies in block g: n bytes, i of them are read. -/
structure CurAt (w : World) (g : Nat) (C : Option Addr) (c : Nat) (bs : List Int) (i : Nat) (h : Int) : Prop where
  c0 : w.cell? ⟨g, 0, none⟩ = some (.slice C bs.length c)
  c1 : w.cell? ⟨g, 1, none⟩ = some (.int .i64 i)
  c2 : w.cell? ⟨g, 2, none⟩ = some (.int .i64 h)
  f1 : w.frozen? ⟨g, 1, none⟩ = false
  f2 : w.frozen? ⟨g, 2, none⟩ = false
  row : Row w C (bs.map (Value.int .u8))
  len : bs.length ≤ 1048576
  le : i ≤ bs.length
  far : bs.map (Value.int .u8) ≠ [] → ∀ b off, C = some ⟨b, off, none⟩ → b < g
  byte : ∀ z ∈ bs, 0 ≤ z ∧ z ≤ 255
def Cur (w : World) (g : Nat) : Prop := ∃ C c bs i h, CurAt w g C c bs i h
theorem name_world {P : World → Prop} {X : World} (F : World → Prop) (hF : F X) (h : ∀ W, F W → P W) : P X := h X hF
theorem CurAt.lt {w : World} {g : Nat} {C : Option Addr} {c : Nat} {bs : List Int} {i : Nat} {h : Int} (k : CurAt w g C c bs i h) : g < w.heap.size := World.block_lt_of_cell? w _ k.c0
theorem cell_set_off {w : World} {g o o' : Nat} (u : Value) (h : o ≠ o') : (w.setCell ⟨g, o, none⟩ u).cell? ⟨g, o', none⟩ = w.cell? ⟨g, o', none⟩ := by
  exact World.cell?_setCells_out g [u] o w ⟨g, o', none⟩ (fun _ _ => by simp; omega)
theorem froz_set {w : World} {p q : Addr} (u : Value) : (w.setCell p u).frozen? q = w.frozen? q := by
  go_simp
theorem CurAt.set2 {w : World} {g : Nat} {C : Option Addr} {c : Nat} {bs : List Int} {i : Nat} {h : Int} (k : CurAt w g C c bs i h) (h' : Int) : CurAt (w.setCell ⟨g, 2, none⟩ (.int .i64 h')) g C c bs i h' ∧ w.grownBy (w.setCell ⟨g, 2, none⟩ (.int .i64 h')) (some g) := by
  have hc := k.c2
  have hf := k.f2
  refine ⟨⟨(cell_set_off _ (by omega)).trans k.c0, (cell_set_off _ (by omega)).trans k.c1, by go_simp, (froz_set _).trans k.f1, (froz_set _).trans k.f2, fun hn => ?_, k.len, k.le, k.far, k.byte⟩, only_setCell (World.grownBy.refl _ _) (.inl rfl) _⟩
  obtain ⟨b, off, rfl, hcell⟩ := k.row hn
  have := k.far hn b off rfl
  refine ⟨b, off, rfl, fun j u hu => (Eq.trans ?_ (hcell j u hu))⟩
  exact World.cell?_of_block (Below.heap_setCell _ _ _ _ (by show b ≠ g; omega))
theorem CurAt.set1 {w : World} {g : Nat} {C : Option Addr} {c : Nat} {bs : List Int} {i : Nat} {h : Int} (k : CurAt w g C c bs i h) {i' : Nat} (hi : i' ≤ bs.length) : CurAt (w.setCell ⟨g, 1, none⟩ (.int .i64 i')) g C c bs i' h ∧ w.grownBy (w.setCell ⟨g, 1, none⟩ (.int .i64 i')) (some g) := by
  have hc := k.c1
  have hf := k.f1
  refine ⟨⟨(cell_set_off _ (by omega)).trans k.c0, by go_simp, (cell_set_off _ (by omega)).trans k.c2, (froz_set _).trans k.f1, (froz_set _).trans k.f2, fun hn => ?_, k.len, hi, k.far, k.byte⟩, only_setCell (World.grownBy.refl _ _) (.inl rfl) _⟩
  obtain ⟨b, off, rfl, hcell⟩ := k.row hn
  have := k.far hn b off rfl
  refine ⟨b, off, rfl, fun j u hu => (Eq.trans ?_ (hcell j u hu))⟩
  exact World.cell?_of_block (Below.heap_setCell _ _ _ _ (by show b ≠ g; omega))
theorem Cur.lt {w : World} {g : Nat} (h : Cur w g) : g < w.heap.size := by
  obtain ⟨C, c, bs, i, h, k⟩ := h
  exact k.lt
theorem CurAt.kept {w w' : World} {g : Nat} {C : Option Addr} {c : Nat} {bs : List Int} {i : Nat} {h : Int} {row : Option Nat} (k : CurAt w g C c bs i h) (hg : w.grownBy w' row) (hr : ∀ k, row = some k → g < k) : CurAt w' g C c bs i h := by
  have hlt := k.lt
  have hb : w'.heap[g]? = w.heap[g]? := hg.block g hlt fun e => by have := hr g e.symm; omega
  have cell : ∀ o, w'.cell? ⟨g, o, none⟩ = w.cell? ⟨g, o, none⟩ := fun o => World.cell?_of_block hb
  have froz : ∀ o, w'.frozen? ⟨g, o, none⟩ = w.frozen? ⟨g, o, none⟩ := fun o => World.frozen?_of_block hb
  refine ⟨(cell _).trans k.c0, (cell _).trans k.c1, (cell _).trans k.c2, (froz _).trans k.f1, (froz _).trans k.f2, fun hne => ?_, k.len, k.le, k.far, k.byte⟩
  obtain ⟨b, off, rfl, hc⟩ := k.row hne
  refine ⟨b, off, rfl, fun j u hu => ?_⟩
  have hlt' := World.block_lt_of_cell? w _ (hc j u hu)
  have hbg := k.far hne b off rfl
  have hb' : w'.heap[b]? = w.heap[b]? := hg.block b hlt' fun e => by have := hr b e.symm; omega
  exact (World.cell?_of_block hb').trans (hc j u hu)
theorem CurAt.ext {w w' : World} {g : Nat} {C : Option Addr} {c : Nat} {bs : List Int} {i : Nat} {h : Int} (k : CurAt w g C c bs i h) (he : Ext w w') : CurAt w' g C c bs i h := k.kept (ext_grown he none) (by simp)
theorem Cur.kept {w w' : World} {g : Nat} {row : Option Nat} (h : Cur w g) (hg : w.grownBy w' row) (hr : ∀ k, row = some k → g < k) : Cur w' g := by
  obtain ⟨C, c, bs, i, h, k⟩ := h
  exact ⟨C, c, bs, i, h, k.kept hg hr⟩
theorem Cur.ext {w w' : World} {g : Nat} (h : Cur w g) (he : Ext w w') : Cur w' g := h.kept (ext_grown he none) (by simp)
/-- Only the cursor has changed, and new memory has been made. -/
def Drawn (w w' : World) (g : Nat) : Prop := w.grownBy w' (some g) ∧ Cur w' g
theorem Drawn.refl {w : World} {g : Nat} (h : Cur w g) : Drawn w w g := ⟨World.grownBy.refl _ _, h⟩
theorem Drawn.trans {w w1 w2 : World} {g : Nat} (h : Drawn w w1 g) (k : Drawn w1 w2 g) : Drawn w w2 g := ⟨grown_then h.1 k.1 (.inl rfl), k.2⟩
theorem Drawn.ext {w w1 w2 : World} {g : Nat} (h : Drawn w w1 g) (he : Ext w1 w2) : Drawn w w2 g := ⟨grown_then h.1 (ext_grown he (some g)) (.inl rfl), h.2.ext he⟩
theorem Drawn.grown {w w1 w2 : World} {g : Nat} {row : Option Nat} (h : Drawn w w1 g) (hg : w1.grownBy w2 row) (hgw : g < w.heap.size) (hr : ∀ k, row = some k → w.heap.size ≤ k) : Drawn w w2 g :=
  ⟨grown_then h.1 hg (.inr hr), h.2.kept hg fun k hk => by have := hr k hk; omega⟩
theorem Drawn.own {w1 w2 : World} {g base : Nat} {e : TypeId} {size n : Nat} {v : Value} {cs : List Value} (h : Drawn w1 w2 g) (ho : w1.ownsRow base e size v n cs) (hb : g < base) : w2.ownsRow base e size v n cs :=
  ho.kept h.1 (.inr fun e => by have := (ho.lt g e).1; omega)
theorem Drawn.size {w w1 : World} {g : Nat} (h : Drawn w w1 g) : w.heap.size ≤ w1.heap.size := h.1.size
/-- What lay before the cursor is as it was. -/
theorem Drawn.out {w0 w w1 : World} {g : Nat} (h : Drawn w w1 g) (he : Ext w0 w) (hg : w0.heap.size ≤ g) : Ext w0 w1 :=
  Below.grown he h.1 he.size fun k hk => by injection hk with hk; omega
theorem Drawn.cell {w w1 : World} {g : Nat} (h : Drawn w w1 g) {p : Addr} (hp : p.block < w.heap.size) (hb : p.block ≠ g) : w1.cell? p = w.cell? p :=
  World.cell?_of_block (h.1.block p.block hp (by intro e; injection e with e; exact hb e))
theorem Drawn.row {w w1 : World} {g : Nat} {A : Option Addr} {cs : List Value} (h : Drawn w w1 g) (hr : Row w A cs) (hb : ∀ b off, A = some ⟨b, off, none⟩ → b ≠ g) : Row w1 A cs := fun hne => by
  obtain ⟨b, off, rfl, hc⟩ := hr hne
  exact ⟨b, off, rfl, fun j u hu => (h.cell (World.block_lt_of_cell? w _ (hc j u hu)) (hb b off rfl)).trans (hc j u hu)⟩

section
variable {P : Program} {w : World} {ops : Array Oper} {rest : List Oper} {o : Oper} {a : Act} {Q : Exit → Act → World → Prop}
/-- append of cells that lie in memory to a row that the call owns: only that row has changed. -/
theorem wpList_pushG (hgd : o.guard = none) (s x : Operand) (t : TypeId)
    (ho : o.op = .call { callee := .builtin .append, args := #[s, x], argTypes := #[t, t] })
    (e : TypeId) {z : Value} {size bytes : Nat} (ht : P.underlying t = some (.slice e)) (hinfo : (P.info? e).map (fun i => (i.zero, i.size, i.bytes)) = some (some z, size, bytes)) (hzs : z.cells.size = size) (hsz : 0 < size)
    (base : Nat) (A : Option Addr) (n c : Nat) (xs : List Value) (hs : a.eval s = .slice A n c) (w0 : World) (hown : w0.ownsRow base e size (.slice A n c) n xs) (he0 : Ext w0 w) (hbase : base ≤ w0.heap.size)
    (ad : Addr) (m c' : Nat) (news : List Value) (hx : a.eval x = .slice (some ad) m c') (hl : news.length = m * size) (hnews : ∀ j u, news[j]? = some u → w.cell? (ad.add j) = some u) (h1 : ∀ u ∈ news, u.oneCell' = true)
    (h63 : n + m ≤ 1000000000000) (hby : bytes ≤ 100)
    (h : ∀ A' c' w', w'.ownsRow base e size (.slice A' (n + m) c') (n + m) (xs ++ news) → w0.grownBy w' (Value.slice A n c).ownBlock → wpList P ops Q rest (a.put o.dst (.slice A' (n + m) c')) w') : wpList P ops Q (o :: rest) a w := by
  obtain ⟨i, hi, hz0, hz1, hz2⟩ := info_parts hinfo
  have hown' := own_ext hown he0
  have hs0 := he0.size
  refine wpList_append_own w hgd s x t ho base e i z size bytes ht hi hz0 hz1 hz2 hzs hsz _ n xs hs hown' ad m c' news hx hl hnews h1 (by unfold maxLen; omega) ?_ (by omega) ?_
  · have := Nat.mul_le_mul h63 hby; omega
  · intro v' w' hw' hg _
    obtain ⟨A', c', rfl⟩ := own_form hw'
    exact h A' c' w' hw' (grown_then (ext_grown he0 _) hg (.inl rfl))
end

/-- A number is drawn. -/
def DrawsIn (w : World) (g : Nat) (lo hi : Int) (e : Ending) (w' : World) : Prop := ∃ v : Int, e = .returned (.int .i64 v) ∧ lo ≤ v ∧ v ≤ hi ∧ Drawn w w' g
set_option maxRecDepth 100000 in
set_option maxHeartbeats 1600000 in
theorem l01Byte_any (g : Nat) (w : World) (hc : Cur w g) : Calls Try.prog 93 #[.pointer (some ⟨g, 0, none⟩)] w (DrawsIn w g 0 255) := by
  obtain ⟨C, c, bs, i, h, k⟩ := hc
  have h2 := k.c2
  have f2 := k.f2
  have KK := hid k
  clear k
  go_enter Try.func93, Try.ntmps93
  go_wp2_with fail
  refine name_world (fun W => ∃ hh, CurAt W g C c bs i hh ∧ w.grownBy W (some g)) ⟨_, KK.out.set2 _⟩ (fun W1 hW1 => ?_)
  obtain ⟨hh, k1, g1⟩ := hW1
  have K1 := hid k1
  have G1 := hid g1
  have c0 := k1.c0
  have c1 := k1.c1
  have c2 := k1.c2
  clear h2 f2 KK g1 k1
  (refine wp_region_calm (by kernel_rfl) (by kernel_rfl) ?_; (repeat (go_big_quiet_step (fail))); refine wpQuiet_nil ?_; rintro w1 ⟨x1, rfl⟩)
  go_wp2_with fail
  have hz := and255_bd (bits .xor .i64 (hh / 8589934592) (hh / 35184372088832))
  generalize bits .and .i64 (bits .xor .i64 (hh / 8589934592) (hh / 35184372088832)) 255 = z at hz ⊢
  have e1 : Ext W1 (ovr W1 x1) := ovr_below W1 x1
  have K2 := hid (K1.out.ext e1)
  have D2 := hid (grown_then G1.out (ext_grown e1 (some g)) (.inl rfl))
  generalize ovr W1 x1 = W2 at K2 D2 ⊢
  have c0 := K2.out.c0
  have c1 := K2.out.c1
  have c2 := K2.out.c2
  clear e1 K1 G1
  by_cases hi : i < bs.length
  · obtain ⟨b, off, hCe, hcell⟩ := K2.out.row.at_ (j := i) (by simpa using hi)
    subst hCe
    have hbyte := hcell i _ (by rw [List.getElem?_map, List.getElem?_eq_getElem hi]; rfl)
    have hbz := K2.out.byte _ (List.getElem_mem hi)
    generalize bs[i] = y at hbyte hbz
    have hw : IntKind.i64.wrap (z + y) = z + y := IntWalk.i64_in _ ⟨by omega, by omega⟩
    clear hcell
    (refine wp_region_calm (by kernel_rfl) (by kernel_rfl) ?_; (repeat (go_big_quiet_step (fail))); refine wpQuiet_nil ?_; rintro w1 ⟨x1, rfl⟩)
    go_wp2_with fail
    have e2 : Ext W2 (ovr W2 x1) := ovr_below W2 x1
    have K3 := hid (K2.out.ext e2)
    have D3 := hid (grown_then D2.out (ext_grown e2 (some g)) (.inl rfl))
    have hbyte := old_cell e2 hbyte
    generalize ovr W2 x1 = W3 at K3 D3 hbyte ⊢
    have c0 := K3.out.c0
    have c1 := K3.out.c1
    have c2 := K3.out.c2
    clear e2 K2 D2
    (refine wp_region_calm (by kernel_rfl) (by kernel_rfl) ?_; (repeat (go_big_quiet_step (fail))); refine wpQuiet_nil ?_; rintro w1 ⟨x1, rfl⟩)
    have e3 : Ext W3 (ovr W3 x1) := ovr_below W3 x1
    have K4 := hid (K3.out.ext e3)
    have D4 := hid (grown_then D3.out (ext_grown e3 (some g)) (.inl rfl))
    generalize ovr W3 x1 = W4 at K4 D4 ⊢
    have c1 := K4.out.c1
    have f1 := K4.out.f1
    have hx := and255_bd (z + y)
    generalize bits .and .i64 (z + y) 255 = x at hx ⊢
    clear e3 K3 D3 c0 c2
    have hi1 : i ≤ 1048576 := by have := K4.out.len; omega
    go_wp2_with fail
    go_ret
    have hs := K4.out.set1 (i' := i + 1) (by omega)
    exact ⟨x, rfl, hx.1, hx.2, grown_then D4.out hs.2 (.inl rfl), _, _, _, _, _, hs.1⟩
  · have e2 : Ext W2 W2 := Ext.refl _
    (refine wp_region_calm (by kernel_rfl) (by kernel_rfl) ?_; (repeat (go_big_quiet_step (fail))); refine wpQuiet_nil ?_; rintro w1 ⟨x1, rfl⟩)
    go_wp2_with fail
    go_ret
    exact ⟨z, rfl, hz.1, hz.2, grown_then D2.out (ext_grown (show Ext W2 _ by repeat (first | exact Ext.refl _ | refine Ext.alloc ?_ _ | assumption | refine Ext.over ?_ _ | refine Ext.drew ?_ | refine Ext.drewN ?_ _)) (some g)) (.inl rfl), _, _, _, _, _, K2.out.ext (by repeat (first | exact Ext.refl _ | refine Ext.alloc ?_ _ | assumption | refine Ext.over ?_ _ | refine Ext.drew ?_ | refine Ext.drewN ?_ _))⟩
end Go.Proofs.Ytkifapcegiajiaa
/- Walks: a number below n is drawn; a cursor is made. Conditions: n at most 256; sizes. -/
namespace Go.Proofs.Ytkifapcegiajiaa
open Go.RowKit
set_option linter.unusedVariables false

set_option maxRecDepth 100000 in
set_option maxHeartbeats 1600000 in
theorem l01Below_any (g : Nat) (n : Int) (w : World) (hc : Cur w g) (hn : n ≤ 256) : Calls Try.prog 71 #[.pointer (some ⟨g, 0, none⟩), .int .i64 n] w (DrawsIn w g 0 (max 0 (n - 1))) := by
  by_cases h0 : n ≤ 0
  · go_enter Try.func71, Try.ntmps71
    go_wp2_with fail
    go_ret
    exact ⟨0, rfl, by omega, by omega, Drawn.refl hc⟩
  · go_enter Try.func71, Try.ntmps71
    go_wp2_with fail
    refine (l01Byte_any g w hc).mono ?_
    rintro _ w1 ⟨v, rfl, v0, v1, hd⟩
    have HD := hid hd
    have hm0 := Int.emod_nonneg v (show n ≠ 0 by omega)
    have hm1 := Int.emod_lt_of_pos v (show 0 < n by omega)
    have htm : v.tmod n = v % n := Int.tmod_eq_emod_of_nonneg v0
    clear hd
    go_wp2_with fail
    go_ret
    exact ⟨v % n, rfl, hm0, by omega, HD.out⟩
theorem CurAt.cur {w w' : World} {g : Nat} {C : Option Addr} {c : Nat} {bs : List Int} {h : Int} (h0 : w'.cell? ⟨g, 0, none⟩ = some (.slice C bs.length c)) (h1 : w'.cell? ⟨g, 1, none⟩ = some (.int .i64 0)) (h2 : w'.cell? ⟨g, 2, none⟩ = some (.int .i64 h)) (f1 : w'.frozen? ⟨g, 1, none⟩ = false) (f2 : w'.frozen? ⟨g, 2, none⟩ = false)
    (hr : Row w C (bs.map (Value.int .u8))) (hx : bs.length ≤ 1048576) (hz : ∀ z ∈ bs, 0 ≤ z ∧ z ≤ 255) (he : Ext w w') (hg : g = w.heap.size) : Cur w' g :=
  ⟨C, c, bs, 0, h, h0, h1, h2, f1, f2, hr.ext he, hx, by omega, fun hne b off hC => by
    obtain ⟨b', off', hC', hc⟩ := hr hne
    rw [hC] at hC'
    injection hC' with hC'
    injection hC' with e1 e2
    have hlen : 0 < (bs.map (Value.int .u8)).length := List.length_pos_iff.2 hne
    have := World.block_lt_of_cell? w _ (hc 0 _ (List.getElem?_eq_getElem hlen))
    rw [hg, e1]; exact this, hz⟩
set_option maxRecDepth 100000 in
set_option maxHeartbeats 1600000 in
theorem l01New_any (A : Option Addr) (n c : Nat) (bs : List Int) (w : World) (hl : Row w A (bs.map (Value.int .u8))) (hn : bs.length = n) (hx : n ≤ 1048576) (hz : ∀ z ∈ bs, 0 ≤ z ∧ z ≤ 255) :
    Calls Try.prog 42 #[.slice A n c] w fun e w' => ∃ g, e = .returned (.pointer (some ⟨g, 0, none⟩)) ∧ w.heap.size ≤ g ∧ Cur w' g ∧ Ext w w' := by
  subst hn
  have HZ := hid hz
  clear hz
  go_enter Try.func42, Try.ntmps42
  go_wp2_with fail
  go_loopw [3, 4] (fun hv iv wr => ∃ (i : Nat) (q : Int), i ≤ bs.length ∧ iv = .int .i64 ↑i ∧ hv = .int .i64 q ∧ 0 ≤ q ∧ q ≤ 1073741823 ∧ Ext w wr) (fun _ iv _ => bs.length - (intOf iv).toNat)
  case atStart => exact ⟨0, _, by omega, rfl, rfl, by omega, by omega, Ext.refl _⟩
  case round =>
    obtain ⟨i, q, hi, rfl, rfl, q0, q1, he⟩ := hrel
    have HE := hid he
    have hL := hl.ext he
    have HLR := hid hL
    clear he
    by_cases hlt : i < bs.length
    · by_cases h4 : (i : Int) < 4000
      · obtain ⟨b, off, rfl, hcell⟩ := hL.at_ (j := i) (by simpa using hlt)
        have hbyte := hcell i _ (by rw [List.getElem?_map, List.getElem?_eq_getElem hlt]; rfl)
        have hbz := HZ.out _ (List.getElem_mem hlt)
        generalize bs[i] = y at hbyte hbz
        have hbd := and30_bd (q * 131 + y + 7)
        clear hcell hL HLR
        go_wp2_with fail
        go_roundw
        case rel => exact ⟨i + 1, _, by omega, by go_num, rfl, hbd.1, hbd.2, HE.out⟩
        case measure => simp [intOf]; omega
      · clear hL
        go_wp2_with fail
        go_ret
        exact ⟨wr.heap.size, rfl, HE.out.size, CurAt.cur (c := c) (h := q) (by go_simp) (by go_simp) (by go_simp) (by go_simp) (by go_simp) HLR.out hx HZ.out (by repeat (first | exact Ext.refl _ | refine Ext.alloc ?_ _ | assumption | refine Ext.over ?_ _ | refine Ext.drew ?_ | refine Ext.drewN ?_ _)) rfl, HE.out.trans (by repeat (first | exact Ext.refl _ | refine Ext.alloc ?_ _ | assumption | refine Ext.over ?_ _ | refine Ext.drew ?_ | refine Ext.drewN ?_ _))⟩
    · clear hL
      go_wp2_with fail
      go_ret
      exact ⟨wr.heap.size, rfl, HE.out.size, CurAt.cur (c := c) (h := q) (by go_simp) (by go_simp) (by go_simp) (by go_simp) (by go_simp) HLR.out hx HZ.out (by repeat (first | exact Ext.refl _ | refine Ext.alloc ?_ _ | assumption | refine Ext.over ?_ _ | refine Ext.drew ?_ | refine Ext.drewN ?_ _)) rfl, HE.out.trans (by repeat (first | exact Ext.refl _ | refine Ext.alloc ?_ _ | assumption | refine Ext.over ?_ _ | refine Ext.drew ?_ | refine Ext.drewN ?_ _))⟩
end Go.Proofs.Ytkifapcegiajiaa
/- Plain law: a room that is turned, moved and begun elsewhere is a room. No condition. -/
namespace Go.Proofs.Ytkifapcegiajiaa
open Go.RowKit
set_option linter.unusedVariables false

def moveT (t dx : Int) (p : T2) : T2 := if t = 1 then ⟨-p.b + dx, p.a⟩ else if t = 2 then ⟨-p.a + dx, -p.b⟩ else ⟨p.a + dx, p.b⟩
/-- Coordinates within m. -/
def near (m : Int) (p : T2) : Prop := (-m ≤ p.a ∧ p.a ≤ m) ∧ (-m ≤ p.b ∧ p.b ≤ m)
theorem near_pok {m : Int} {p : T2} (h : near m p) (hm : m ≤ 40) : pokT p = true := by unfold near at h; unfold pokT; rw [pok_iff]; omega
theorem near_move {m t dx : Int} {p : T2} (h : near m p) (hd : -2 ≤ dx ∧ dx ≤ 2) : near (m + 2) (moveT t dx p) := by
  unfold near at *
  unfold moveT
  split
  · dsimp only; omega
  · split <;> (dsimp only; omega)
theorem turnZ_move (t dx : Int) (a b c : T2) : turnZ (moveT t dx a) (moveT t dx b) (moveT t dx c) = turnZ a b c := by
  unfold turnZ moveT
  split
  · dsimp only; grind
  · split <;> (dsimp only; grind)
theorem move_inj {t dx : Int} {p q : T2} : moveT t dx p = moveT t dx q ↔ p = q := by
  constructor
  · intro h
    unfold moveT at h
    cases p; cases q
    split at h
    · simp only [T2.mk.injEq] at *; omega
    · split at h <;> (simp only [T2.mk.injEq] at *; omega)
  · intro h; rw [h]
theorem inBox_move {t dx : Int} {p a b : T2} : inBox (moveT t dx p) (moveT t dx a) (moveT t dx b) ↔ inBox p a b := by
  unfold inBox moveT
  split
  · dsimp only; omega
  · split <;> (dsimp only; omega)
section
variable {t dx : Int} (hd : -2 ≤ dx ∧ dx ≤ 2)
include hd
theorem small_move {p : T2} (h : near 16 p) : small (moveT t dx p) := small_pok (near_pok (near_move h hd) (by omega))
theorem turnP_move {a b c : T2} (ha : near 16 a) (hb : near 16 b) (hc : near 16 c) : turnP (moveT t dx a) (moveT t dx b) (moveT t dx c) = turnP a b c := by
  rw [turn_small (small_move hd ha) (small_move hd hb) (small_move hd hc), turn_small (small_pok (near_pok ha (by omega))) (small_pok (near_pok hb (by omega))) (small_pok (near_pok hc (by omega))), turnZ_move]
theorem onP_move {p a b : T2} (hp : near 16 p) (ha : near 16 a) (hb : near 16 b) : onP (moveT t dx p) (moveT t dx a) (moveT t dx b) = onP p a b := by
  rw [Bool.eq_iff_iff, onP_small (small_move hd hp) (small_move hd ha) (small_move hd hb), onP_small (small_pok (near_pok hp (by omega))) (small_pok (near_pok ha (by omega))) (small_pok (near_pok hb (by omega))), turnZ_move, inBox_move]
theorem meet_move {a b c d : T2} (ha : near 16 a) (hb : near 16 b) (hc : near 16 c) (he : near 16 d) : meetP (moveT t dx a) (moveT t dx b) (moveT t dx c) (moveT t dx d) = meetP a b c d := by
  have hk : ∀ {p}, near 16 p → pokT (moveT t dx p) = pokT p := fun h => by rw [near_pok (near_move h hd) (by omega), near_pok h (by omega)]
  have hq : ∀ {p q : T2}, eqP (moveT t dx p) (moveT t dx q) = eqP p q := fun {p q} => by rw [Bool.eq_iff_iff, eqP_iff, eqP_iff, move_inj]
  unfold meetP meetQ wokP crossP
  rw [hk ha, hk hb, hk hc, hk he, hq, hq, turnP_move hd ha hb hc, turnP_move hd ha hb he, turnP_move hd hc he ha, turnP_move hd hc he hb, onP_move hd ha hc he, onP_move hd hb hc he, onP_move hd hc ha hb, onP_move hd he ha hb]
end
/-! Sums around. -/
def sumN (g : Nat → Int) : Nat → Int
  | 0 => 0
  | k + 1 => sumN g k + g k
theorem sum_split (g : Nat → Int) (a : Nat) : ∀ b, sumN g (a + b) = sumN g a + sumN (fun k => g (a + k)) b
  | 0 => by simp [sumN]
  | b + 1 => by
    have := sum_split g a b
    show sumN g (a + b) + g (a + b) = _ + (sumN _ b + g (a + b))
    omega
theorem sum_congr {g h : Nat → Int} : ∀ n, (∀ k, k < n → g k = h k) → sumN g n = sumN h n
  | 0, _ => rfl
  | n + 1, hh => by
    have := sum_congr n (fun k hk => hh k (by omega))
    simp only [sumN, this, hh n (by omega)]
theorem sum_spin (g : Nat → Int) {n f : Nat} (hf : f < n) : sumN (fun k => g ((f + k) % n)) n = sumN g n := by
  obtain ⟨r, rfl⟩ : ∃ r, n = r + f := ⟨n - f, by omega⟩
  rw [sum_split _ r f, show sumN g (r + f) = sumN g (f + r) by rw [Nat.add_comm], sum_split g f r]
  have h1 : sumN (fun k => g ((f + k) % (r + f))) r = sumN (fun k => g (f + k)) r := sum_congr r fun k hk => by rw [Nat.mod_eq_of_lt (by omega)]
  have h2 : sumN (fun k => g ((f + (r + k)) % (r + f))) f = sumN g f := sum_congr f fun k hk => by
    rw [show f + (r + k) = k + (r + f) by omega, Nat.add_mod_right, Nat.mod_eq_of_lt (by omega)]
  omega
theorem sum_sub (g h : Nat → Int) : ∀ n, sumN (fun k => g k - h k) n = sumN g n - sumN h n
  | 0 => rfl
  | n + 1 => by have := sum_sub g h n; simp only [sumN]; omega
theorem sum_add (g h : Nat → Int) : ∀ n, sumN (fun k => g k + h k) n = sumN g n + sumN h n
  | 0 => rfl
  | n + 1 => by have := sum_add g h n; simp only [sumN]; omega
theorem sum_mul (c : Int) (g : Nat → Int) : ∀ n, sumN (fun k => c * g k) n = c * sumN g n
  | 0 => by simp [sumN]
  | n + 1 => by have := sum_mul c g n; simp only [sumN, Int.mul_add]; omega
def detZ (p q : T2) : Int := p.a * q.b - p.b * q.a
def areaZ (L : List T2) : Int := sumN (fun k => detZ (at2 L k) (nxt L k)) L.length
def spin (n f k : Nat) : Nat := (f + k) % n
def spun (L : List T2) (f : Nat) (t dx : Int) : List T2 := (List.range L.length).map fun k => moveT t dx (at2 L (spin L.length f k))
theorem spun_len (L : List T2) (f : Nat) (t dx : Int) : (spun L f t dx).length = L.length := by simp [spun]
theorem spun_at {L : List T2} {f : Nat} {t dx : Int} {k : Nat} (hk : k < L.length) : at2 (spun L f t dx) k = moveT t dx (at2 L (spin L.length f k)) := by
  rw [at2_eq _ _ (by rw [spun_len]; exact hk)]
  simp [spun]
theorem spin_lt {n f k : Nat} (hn : 0 < n) : spin n f k < n := Nat.mod_lt _ hn
theorem spin_add {n f k j : Nat} : spin n f ((k + j) % n) = (spin n f k + j) % n := by
  unfold spin
  rw [Nat.add_mod, Nat.mod_mod, ← Nat.add_mod, Nat.mod_add_mod, Nat.add_assoc]
theorem spin_inj {n f k i : Nat} (hk : k < n) (hi : i < n) (h : spin n f k = spin n f i) : k = i := by
  unfold spin at h
  have h1 := Nat.div_add_mod (f + k) n
  have h2 := Nat.div_add_mod (f + i) n
  rw [h] at h1
  rcases Nat.lt_trichotomy ((f + k) / n) ((f + i) / n) with h3 | h3 | h3
  · have := Nat.mul_le_mul_left n (show (f + k) / n + 1 ≤ (f + i) / n from h3)
    rw [Nat.mul_add] at this
    omega
  · rw [h3] at h1; omega
  · have := Nat.mul_le_mul_left n (show (f + i) / n + 1 ≤ (f + k) / n from h3)
    rw [Nat.mul_add] at this
    omega
theorem det_move (t dx : Int) (p q : T2) : detZ (moveT t dx p) (moveT t dx q) = detZ p q + dx * ((moveT t dx q).b - (moveT t dx p).b) := by
  unfold detZ moveT
  split
  · dsimp only; grind
  · split <;> (dsimp only; grind)
theorem dblS_sum {L : List T2} (h : poks L = true) : ∀ k, k ≤ L.length → k ≤ 10 → dblS L k = sumN (fun k => detZ (at2 L k) (nxt L k)) k
  | 0, _, _ => rfl
  | k + 1, hk, h10 => by
    have ih := dblS_sum h k (by omega) (by omega)
    have hb := (dbl_eq h k (by omega) (by omega)).2
    have h1 := pok_bd (poks_at h (j := k) (by omega))
    have h2 := pok_bd (p := nxt L k) (poks_at h (nx_lt (by omega)))
    have m1 := mul_small (p := (at2 L k).a) (q := (nxt L k).b) (m := 40) h1.1 h2.2
    have m2 := mul_small (p := (at2 L k).b) (q := (nxt L k).a) (m := 40) h1.2 h2.1
    have e1 := IntWalk.wrap64_in ((at2 L k).a * (nxt L k).b) (by omega)
    have e2 := IntWalk.wrap64_in ((at2 L k).b * (nxt L k).a) (by omega)
    show wrap64 (wrap64 (dblS L k + wrap64 ((at2 L k).a * (nxt L k).b)) - wrap64 ((at2 L k).b * (nxt L k).a)) = sumN _ k + detZ (at2 L k) (nxt L k)
    rw [← ih]
    unfold detZ
    rw [e1, e2]
    clear ih
    generalize (at2 L k).a * (nxt L k).b = u at *
    generalize (at2 L k).b * (nxt L k).a = v at *
    generalize dblS L k = s at *
    rw [IntWalk.wrap64_in (s + u) (by omega), IntWalk.wrap64_in (s + u - v) (by omega)]
    omega
theorem room_spun {L : List T2} {f : Nat} {t dx : Int} (hr : roomS L = true) (hf : f < L.length) (hd : -2 ≤ dx ∧ dx ≤ 2) (hn : ∀ k, k < L.length → near 16 (at2 L k)) : roomS (spun L f t dx) = true ∧ ∀ k, k < (spun L f t dx).length → near 18 (at2 (spun L f t dx) k) := by
  have hr' := hr
  unfold roomS at hr'
  simp only [Bool.and_eq_true, decide_eq_true_eq] at hr'
  obtain ⟨⟨⟨h1, h2⟩, h3⟩, h4⟩ := hr'
  have hl0 : 0 < L.length := by omega
  have hlo := h1
  unfold lenOk at hlo
  rw [btw_iff] at hlo
  have hs : ∀ k, spin L.length f k < L.length := fun k => spin_lt hl0
  have hN := fun k => hn _ (hs k)
  have hnear : ∀ k, k < (spun L f t dx).length → near 18 (at2 (spun L f t dx) k) := fun k hk => by
    rw [spun_len] at hk
    rw [spun_at hk]
    have := near_move (t := t) (hN k) hd
    exact this
  have hnx : ∀ k, k < L.length → nxt (spun L f t dx) k = moveT t dx (nxt L (spin L.length f k)) := fun k hk => by
    unfold nxt
    rw [spun_len, spun_at (nx_lt hk)]
    congr 2
    exact spin_add
  have hNx := fun k (hk : k < L.length) => hn _ (nx_lt (n := L.length) (hs k))
  have hpk : poks (spun L f t dx) = true := by
    unfold poks
    rw [allN_iff]
    exact fun k hk => near_pok (hnear k hk) (by omega)
  have hmeet : ∀ k i, k < L.length → i < L.length → meetA (spun L f t dx) k i = meetA L (spin L.length f k) (spin L.length f i) := fun k i hk hi => by
    unfold meetA
    rw [spun_at hk, spun_at hi, hnx k hk, hnx i hi]
    exact meet_move hd (hN k) (hNx k hk) (hN i) (hNx i hi)
  have hrow : allN (spun L f t dx).length (rowS (spun L f t dx)) = true := by
    rw [spun_len, allN_iff]
    intro k hk
    have h5 := allN_iff.1 h3 _ (hs k)
    unfold rowS at h5 ⊢
    simp only [Bool.and_eq_true, Bool.not_eq_true'] at h5 ⊢
    refine ⟨?_, ?_⟩
    · rw [← h5.1]
      unfold bend
      rw [spun_len, spun_at hk, hnx k hk, spun_at (show nx2 L.length k < L.length from Nat.mod_lt _ hl0)]
      have e : spin L.length f (nx2 L.length k) = nx2 L.length (spin L.length f k) := spin_add
      rw [e]
      congr 1
      exact turnP_move hd (hN k) (hNx k hk) (hn _ (Nat.mod_lt _ hl0))
    · rw [spun_len, allN_iff]
      intro i hi
      have h6 := allN_iff.1 h5.2 _ (hs i)
      unfold pairS at h6 ⊢
      rw [spun_len, hmeet k i hk hi]
      by_cases e1 : i = k
      · rw [beq_iff_eq.2 e1]; rfl
      by_cases e2 : nx L.length i = k
      · rw [beq_iff_eq.2 e2]; simp
      by_cases e3 : nx L.length k = i
      · rw [beq_iff_eq.2 e3]; simp
      have s1 : (spin L.length f i == spin L.length f k) = false := beq_eq_false_iff_ne.2 fun e => e1 (spin_inj hi hk e)
      have s2 : (nx L.length (spin L.length f i) == spin L.length f k) = false := beq_eq_false_iff_ne.2 fun e => e2 (spin_inj (nx_lt hi) hk ((spin_add (n := L.length) (f := f) (k := i) (j := 1)).trans e))
      have s3 : (nx L.length (spin L.length f k) == spin L.length f i) = false := beq_eq_false_iff_ne.2 fun e => e3 (spin_inj (nx_lt hk) hi ((spin_add (n := L.length) (f := f) (k := k) (j := 1)).trans e))
      rw [s1, s2, s3] at h6
      simp only [Bool.false_or] at h6
      rw [h6]; simp
  have harea : dblS (spun L f t dx) (spun L f t dx).length = dblS L L.length := by
    rw [dblS_sum hpk _ (Nat.le_refl _) (by rw [spun_len]; omega), dblS_sum h2 _ (Nat.le_refl _) (by omega), spun_len]
    have e1 : sumN (fun k => detZ (at2 (spun L f t dx) k) (nxt (spun L f t dx) k)) L.length = sumN (fun k => detZ (at2 L (spin L.length f k)) (nxt L (spin L.length f k)) + dx * ((moveT t dx (nxt L (spin L.length f k))).b - (moveT t dx (at2 L (spin L.length f k))).b)) L.length := sum_congr _ fun k hk => by rw [spun_at hk, hnx k hk, det_move]
    rw [e1, sum_add, sum_mul, sum_sub]
    have e2 := sum_spin (fun k => detZ (at2 L k) (nxt L k)) hf
    have e3 := sum_spin (fun k => (moveT t dx (nxt L k)).b) hf
    have e4 := sum_spin (fun k => (moveT t dx (at2 L k)).b) hf
    have e5 : sumN (fun k => (moveT t dx (nxt L k)).b) L.length = sumN (fun k => (moveT t dx (at2 L k)).b) L.length := by
      by_cases h1 : 1 < L.length
      · have := sum_spin (fun k => (moveT t dx (at2 L k)).b) h1
        rw [← this]
        exact sum_congr _ fun k hk => by unfold nxt nx; rw [Nat.add_comm]
      · omega
    show sumN (fun k => detZ (at2 L ((f + k) % L.length)) (nxt L ((f + k) % L.length))) L.length + dx * (sumN (fun k => (moveT t dx (nxt L ((f + k) % L.length))).b) L.length - sumN (fun k => (moveT t dx (at2 L ((f + k) % L.length))).b) L.length) = _
    rw [e2, e3, e4, e5, Int.sub_self, Int.mul_zero, Int.add_zero]
  refine ⟨?_, hnear⟩
  unfold roomS
  rw [hpk, hrow, harea, decide_eq_true h4]
  unfold lenOk
  rw [spun_len]
  show (lenOk L && true && true && true) = true
  rw [h1]; rfl
end Go.Proofs.Ytkifapcegiajiaa
/- Walks: rooms are drawn: numbers, shapes, copies. Conditions: sizes. -/
namespace Go.Proofs.Ytkifapcegiajiaa
open Go.RowKit
set_option linter.unusedVariables false

set_option maxRecDepth 100000 in
set_option maxHeartbeats 1600000 in
theorem l01BelowB_any (g : Nat) (n : Int) (w : World) (hc : Cur w g) (h1 : 1 ≤ n) (hn : n ≤ 100000) : Calls Try.prog 71 #[.pointer (some ⟨g, 0, none⟩), .int .i64 n] w (DrawsIn w g 0 (n - 1)) := by
  by_cases h256 : n ≤ 256
  · refine (l01Below_any g n w hc h256).mono ?_
    rintro _ w1 ⟨v, rfl, v0, v1, hd⟩
    exact ⟨v, rfl, v0, by omega, hd⟩
  have h0 : ¬ n ≤ 0 := by omega
  go_enter Try.func71, Try.ntmps71
  go_wp2_with fail
  refine (l01Byte_any g w hc).mono ?_
  rintro _ w1 ⟨x, rfl, x0, x1, hd⟩
  have HD := hid hd
  clear hd
  go_wp2_with fail
  refine (l01Byte_any g w1 HD.out.2).mono ?_
  rintro _ w2 ⟨y, rfl, y0, y1, hd⟩
  have HD := hid (HD.out.trans hd)
  clear hd
  go_wp2_with fail
  refine (l01Byte_any g w2 HD.out.2).mono ?_
  rintro _ w3 ⟨z, rfl, z0, z1, hd⟩
  have HD := hid (HD.out.trans hd)
  clear hd
  go_wp2_with fail
  refine (l01Byte_any g w3 HD.out.2).mono ?_
  rintro _ w4 ⟨u, rfl, u0, u1, hd⟩
  have HD := hid (HD.out.trans hd)
  clear hd
  have hm0 := Int.emod_nonneg (x * 16777216 + y * 65536 + z * 256 + u) (show n ≠ 0 by omega)
  have hm1 := Int.emod_lt_of_pos (x * 16777216 + y * 65536 + z * 256 + u) (show 0 < n by omega)
  have htm : (x * 16777216 + y * 65536 + z * 256 + u).tmod n = (x * 16777216 + y * 65536 + z * 256 + u) % n := Int.tmod_eq_emod_of_nonneg (by omega)
  go_wp2_with fail
  go_ret
  exact ⟨(x * 16777216 + y * 65536 + z * 256 + u) % n, by first | rfl | (rw [← htm]; rfl), hm0, by omega, HD.out⟩
theorem info_PointR : (Try.prog.info? 35).map (fun i => (i.zero, i.size, i.bytes)) = some (some (.agg #[.int .i64 0, .int .i64 0]), 2, 16) := by kernel_rfl
theorem own_farR {w : World} {base n size : Nat} {e : TypeId} {v : Value} {cs : List Value} (h : w.ownsRow base e size v n cs) {p : Addr} (hp : p.block < base) (u : Value) : (w.setCell p u).ownsRow base e size v n cs :=
  h.kept (only_setCell (World.grownBy.refl _ _) (g := p.block) (.inl rfl) u) (.inr fun h1 => by have := (h.lt _ h1).1; omega)
theorem lit_own (w : World) (B n size g : Nat) (hg : g = w.heap.size) (cs : Array Value) (e : TypeId) (hB : B ≤ w.heap.size) (hs : cs.size = n * size) (hn : n ≤ 1000000) : (w.alloc (.cells cs e)).ownsRow B e size (.slice (some ⟨g, 0, none⟩) n n) n cs.toList := by
  subst hg
  refine ⟨by simpa using hs, .inr ⟨w.heap.size, n, cs, rfl, hB, heap_alloc_new w _, Nat.le_refl _, by unfold maxLen; omega, hs, ?_⟩⟩
  exact List.take_of_length_le (by rw [Array.length_toList, hs]; exact Nat.le_refl _)
/-- A valid room whose coordinates are at most m. -/
def RoomN (m : Int) (L : List T2) : Prop := roomS L = true ∧ ∀ j, j < L.length → near m (at2 L j)
def shape0 : List T2 := [⟨0, 0⟩, ⟨4, 0⟩, ⟨4, 4⟩, ⟨0, 4⟩]
theorem shape0_ok : RoomN 10 shape0 := ⟨by kernel_rfl, fun j hj => by
  have hj : j < 4 := hj
  rcases (show j = 0 ∨ j = 1 ∨ j = 2 ∨ j = 3 by omega) with rfl | rfl | rfl | rfl <;> (unfold near; decide)⟩
def shape1 : List T2 := [⟨0, 0⟩, ⟨5, 0⟩, ⟨2, 4⟩]
theorem shape1_ok : RoomN 10 shape1 := ⟨by kernel_rfl, fun j hj => by
  have hj : j < 3 := hj
  rcases (show j = 0 ∨ j = 1 ∨ j = 2 by omega) with rfl | rfl | rfl <;> (unfold near; decide)⟩
def shape2 : List T2 := [⟨0, 0⟩, ⟨6, 0⟩, ⟨6, 2⟩, ⟨2, 2⟩, ⟨2, 6⟩, ⟨0, 6⟩]
theorem shape2_ok : RoomN 10 shape2 := ⟨by kernel_rfl, fun j hj => by
  have hj : j < 6 := hj
  rcases (show j = 0 ∨ j = 1 ∨ j = 2 ∨ j = 3 ∨ j = 4 ∨ j = 5 by omega) with rfl | rfl | rfl | rfl | rfl | rfl <;> (unfold near; decide)⟩
def shape3 : List T2 := [⟨0, 0⟩, ⟨8, 0⟩, ⟨8, 6⟩, ⟨4, 2⟩, ⟨0, 6⟩]
theorem shape3_ok : RoomN 10 shape3 := ⟨by kernel_rfl, fun j hj => by
  have hj : j < 5 := hj
  rcases (show j = 0 ∨ j = 1 ∨ j = 2 ∨ j = 3 ∨ j = 4 by omega) with rfl | rfl | rfl | rfl | rfl <;> (unfold near; decide)⟩
def shape4 : List T2 := [⟨0, 0⟩, ⟨10, 0⟩, ⟨10, 5⟩, ⟨8, 1⟩, ⟨5, 5⟩, ⟨2, 1⟩, ⟨0, 5⟩]
theorem shape4_ok : RoomN 10 shape4 := ⟨by kernel_rfl, fun j hj => by
  have hj : j < 7 := hj
  rcases (show j = 0 ∨ j = 1 ∨ j = 2 ∨ j = 3 ∨ j = 4 ∨ j = 5 ∨ j = 6 by omega) with rfl | rfl | rfl | rfl | rfl | rfl | rfl <;> (unfold near; decide)⟩
def shape5 : List T2 := [⟨0, 0⟩, ⟨7, 0⟩, ⟨7, 7⟩, ⟨1, 7⟩, ⟨1, 3⟩, ⟨3, 3⟩, ⟨3, 5⟩, ⟨5, 5⟩, ⟨5, 2⟩, ⟨0, 2⟩]
theorem shape5_ok : RoomN 10 shape5 := ⟨by kernel_rfl, fun j hj => by
  have hj : j < 10 := hj
  rcases (show j = 0 ∨ j = 1 ∨ j = 2 ∨ j = 3 ∨ j = 4 ∨ j = 5 ∨ j = 6 ∨ j = 7 ∨ j = 8 ∨ j = 9 by omega) with rfl | rfl | rfl | rfl | rfl | rfl | rfl | rfl | rfl | rfl <;> (unfold near; decide)⟩
def shape6 : List T2 := [⟨0, 0⟩, ⟨4, 2⟩, ⟨8, 0⟩, ⟨5, 3⟩, ⟨4, 7⟩, ⟨3, 3⟩]
theorem shape6_ok : RoomN 10 shape6 := ⟨by kernel_rfl, fun j hj => by
  have hj : j < 6 := hj
  rcases (show j = 0 ∨ j = 1 ∨ j = 2 ∨ j = 3 ∨ j = 4 ∨ j = 5 by omega) with rfl | rfl | rfl | rfl | rfl | rfl <;> (unfold near; decide)⟩
def shape7 : List T2 := [⟨0, 0⟩, ⟨6, 1⟩, ⟨7, 4⟩, ⟨3, 6⟩, ⟨1, 3⟩]
theorem shape7_ok : RoomN 10 shape7 := ⟨by kernel_rfl, fun j hj => by
  have hj : j < 5 := hj
  rcases (show j = 0 ∨ j = 1 ∨ j = 2 ∨ j = 3 ∨ j = 4 by omega) with rfl | rfl | rfl | rfl | rfl <;> (unfold near; decide)⟩
set_option maxRecDepth 100000 in
set_option maxHeartbeats 3200000 in
theorem l04Shape_any (k : Int) (hk : 0 ≤ k ∧ k ≤ 7) (w : World) : Calls Try.prog 70 #[.int .i64 k] w fun e w' => ∃ (A : Option Addr) (n : Nat) (L : List T2), e = .returned (.agg #[.slice A n n]) ∧ L.length = n ∧ RoomN 10 L ∧ w'.ownsRow w.heap.size 35 2 (.slice A n n) n (L.flatMap T2.v) ∧ Ext w w' := by
  rcases (show k = 0 ∨ k = 1 ∨ k = 2 ∨ k = 3 ∨ k = 4 ∨ k = 5 ∨ k = 6 ∨ k = 7 by omega) with rfl | rfl | rfl | rfl | rfl | rfl | rfl | rfl
  · go_enter Try.func70, Try.ntmps70
    go_wp2_with fail
    refine bodyPost_ret (v := .agg #[.slice (some ⟨w.heap.size + 1, 0, none⟩) 4 4]) (by first | (simp [results, Try.results70, go_sem]; done) | (unfold results; rw [Try.results70]; go_simp)) rfl ?_
    refine ⟨_, 4, shape0, rfl, rfl, shape0_ok, own_base (lit_own (w.alloc _) (w.heap.size + 1) 4 2 (w.heap.size + 1) (by simp) #[.int .i64 0, .int .i64 0, .int .i64 4, .int .i64 0, .int .i64 4, .int .i64 4, .int .i64 0, .int .i64 4] 35 (by simp) rfl (by omega)) (Nat.le_succ _), ?_⟩
    repeat (first | exact Ext.refl _ | refine Ext.alloc ?_ _ | assumption | refine Ext.over ?_ _ | refine Ext.drew ?_ | refine Ext.drewN ?_ _)
  · go_enter Try.func70, Try.ntmps70
    go_wp2_with fail
    refine bodyPost_ret (v := .agg #[.slice (some ⟨w.heap.size + 1, 0, none⟩) 3 3]) (by first | (simp [results, Try.results70, go_sem]; done) | (unfold results; rw [Try.results70]; go_simp)) rfl ?_
    refine ⟨_, 3, shape1, rfl, rfl, shape1_ok, own_base (lit_own (w.alloc _) (w.heap.size + 1) 3 2 (w.heap.size + 1) (by simp) #[.int .i64 0, .int .i64 0, .int .i64 5, .int .i64 0, .int .i64 2, .int .i64 4] 35 (by simp) rfl (by omega)) (Nat.le_succ _), ?_⟩
    repeat (first | exact Ext.refl _ | refine Ext.alloc ?_ _ | assumption | refine Ext.over ?_ _ | refine Ext.drew ?_ | refine Ext.drewN ?_ _)
  · go_enter Try.func70, Try.ntmps70
    go_wp2_with fail
    refine bodyPost_ret (v := .agg #[.slice (some ⟨w.heap.size + 1, 0, none⟩) 6 6]) (by first | (simp [results, Try.results70, go_sem]; done) | (unfold results; rw [Try.results70]; go_simp)) rfl ?_
    refine ⟨_, 6, shape2, rfl, rfl, shape2_ok, own_base (lit_own (w.alloc _) (w.heap.size + 1) 6 2 (w.heap.size + 1) (by simp) #[.int .i64 0, .int .i64 0, .int .i64 6, .int .i64 0, .int .i64 6, .int .i64 2, .int .i64 2, .int .i64 2, .int .i64 2, .int .i64 6, .int .i64 0, .int .i64 6] 35 (by simp) rfl (by omega)) (Nat.le_succ _), ?_⟩
    repeat (first | exact Ext.refl _ | refine Ext.alloc ?_ _ | assumption | refine Ext.over ?_ _ | refine Ext.drew ?_ | refine Ext.drewN ?_ _)
  · go_enter Try.func70, Try.ntmps70
    go_wp2_with fail
    refine bodyPost_ret (v := .agg #[.slice (some ⟨w.heap.size + 1, 0, none⟩) 5 5]) (by first | (simp [results, Try.results70, go_sem]; done) | (unfold results; rw [Try.results70]; go_simp)) rfl ?_
    refine ⟨_, 5, shape3, rfl, rfl, shape3_ok, own_base (lit_own (w.alloc _) (w.heap.size + 1) 5 2 (w.heap.size + 1) (by simp) #[.int .i64 0, .int .i64 0, .int .i64 8, .int .i64 0, .int .i64 8, .int .i64 6, .int .i64 4, .int .i64 2, .int .i64 0, .int .i64 6] 35 (by simp) rfl (by omega)) (Nat.le_succ _), ?_⟩
    repeat (first | exact Ext.refl _ | refine Ext.alloc ?_ _ | assumption | refine Ext.over ?_ _ | refine Ext.drew ?_ | refine Ext.drewN ?_ _)
  · go_enter Try.func70, Try.ntmps70
    go_wp2_with fail
    refine bodyPost_ret (v := .agg #[.slice (some ⟨w.heap.size + 1, 0, none⟩) 7 7]) (by first | (simp [results, Try.results70, go_sem]; done) | (unfold results; rw [Try.results70]; go_simp)) rfl ?_
    refine ⟨_, 7, shape4, rfl, rfl, shape4_ok, own_base (lit_own (w.alloc _) (w.heap.size + 1) 7 2 (w.heap.size + 1) (by simp) #[.int .i64 0, .int .i64 0, .int .i64 10, .int .i64 0, .int .i64 10, .int .i64 5, .int .i64 8, .int .i64 1, .int .i64 5, .int .i64 5, .int .i64 2, .int .i64 1, .int .i64 0, .int .i64 5] 35 (by simp) rfl (by omega)) (Nat.le_succ _), ?_⟩
    repeat (first | exact Ext.refl _ | refine Ext.alloc ?_ _ | assumption | refine Ext.over ?_ _ | refine Ext.drew ?_ | refine Ext.drewN ?_ _)
  · go_enter Try.func70, Try.ntmps70
    go_wp2_with fail
    refine bodyPost_ret (v := .agg #[.slice (some ⟨w.heap.size + 1, 0, none⟩) 10 10]) (by first | (simp [results, Try.results70, go_sem]; done) | (unfold results; rw [Try.results70]; go_simp)) rfl ?_
    refine ⟨_, 10, shape5, rfl, rfl, shape5_ok, own_base (lit_own (w.alloc _) (w.heap.size + 1) 10 2 (w.heap.size + 1) (by simp) #[.int .i64 0, .int .i64 0, .int .i64 7, .int .i64 0, .int .i64 7, .int .i64 7, .int .i64 1, .int .i64 7, .int .i64 1, .int .i64 3, .int .i64 3, .int .i64 3, .int .i64 3, .int .i64 5, .int .i64 5, .int .i64 5, .int .i64 5, .int .i64 2, .int .i64 0, .int .i64 2] 35 (by simp) rfl (by omega)) (Nat.le_succ _), ?_⟩
    repeat (first | exact Ext.refl _ | refine Ext.alloc ?_ _ | assumption | refine Ext.over ?_ _ | refine Ext.drew ?_ | refine Ext.drewN ?_ _)
  · go_enter Try.func70, Try.ntmps70
    go_wp2_with fail
    refine bodyPost_ret (v := .agg #[.slice (some ⟨w.heap.size + 1, 0, none⟩) 6 6]) (by first | (simp [results, Try.results70, go_sem]; done) | (unfold results; rw [Try.results70]; go_simp)) rfl ?_
    refine ⟨_, 6, shape6, rfl, rfl, shape6_ok, own_base (lit_own (w.alloc _) (w.heap.size + 1) 6 2 (w.heap.size + 1) (by simp) #[.int .i64 0, .int .i64 0, .int .i64 4, .int .i64 2, .int .i64 8, .int .i64 0, .int .i64 5, .int .i64 3, .int .i64 4, .int .i64 7, .int .i64 3, .int .i64 3] 35 (by simp) rfl (by omega)) (Nat.le_succ _), ?_⟩
    repeat (first | exact Ext.refl _ | refine Ext.alloc ?_ _ | assumption | refine Ext.over ?_ _ | refine Ext.drew ?_ | refine Ext.drewN ?_ _)
  · go_enter Try.func70, Try.ntmps70
    go_wp2_with fail
    refine bodyPost_ret (v := .agg #[.slice (some ⟨w.heap.size + 1, 0, none⟩) 5 5]) (by first | (simp [results, Try.results70, go_sem]; done) | (unfold results; rw [Try.results70]; go_simp)) rfl ?_
    refine ⟨_, 5, shape7, rfl, rfl, shape7_ok, own_base (lit_own (w.alloc _) (w.heap.size + 1) 5 2 (w.heap.size + 1) (by simp) #[.int .i64 0, .int .i64 0, .int .i64 6, .int .i64 1, .int .i64 7, .int .i64 4, .int .i64 3, .int .i64 6, .int .i64 1, .int .i64 3] 35 (by simp) rfl (by omega)) (Nat.le_succ _), ?_⟩
    repeat (first | exact Ext.refl _ | refine Ext.alloc ?_ _ | assumption | refine Ext.over ?_ _ | refine Ext.drew ?_ | refine Ext.drewN ?_ _)
theorem one2 {l : List T2} : ∀ u ∈ l.flatMap T2.v, u.oneCell' = true := by
  intro u hu
  obtain ⟨x, _, hx⟩ := List.mem_flatMap.1 hu
  simp only [T2.v, List.mem_cons, List.not_mem_nil, or_false] at hx
  rcases hx with rfl | rfl <;> rfl
set_option maxRecDepth 100000 in
set_option maxHeartbeats 1600000 in
theorem l04Copy_any (A : Option Addr) (n c : Nat) (L : List T2) (w : World) (hl : Row w A (L.flatMap T2.v)) (hn : L.length = n) (hx : n ≤ 1048577) (hnone : A = none → c = 0) : Calls Try.prog 72 #[.agg #[.slice A n c]] w fun e w' => ∃ (B : Option Addr) (d : Nat), e = .returned (.agg #[.slice B n d]) ∧ w'.ownsRow w.heap.size 35 2 (.slice B n d) n (L.flatMap T2.v) ∧ Ext w w' := by
  subst hn
  have HL := hid hl
  clear hl
  go_enter Try.func72, Try.ntmps72
  obtain ⟨wb, hwb⟩ : ∃ wb, wb = (w.alloc (.cells #[.slice A L.length c] 33)).alloc (.cells #[.slice none 0 0] 33) := ⟨_, rfl⟩
  have EB : Ext w wb := by rw [hwb]; repeat (first | exact Ext.refl _ | refine Ext.alloc ?_ _ | assumption | refine Ext.over ?_ _ | refine Ext.drew ?_ | refine Ext.drewN ?_ _)
  have b0 : wb.cell? ⟨w.heap.size, 0, none⟩ = some (.slice A L.length c) := by rw [hwb]; go_simp
  have b1 : wb.cell? ⟨w.heap.size + 1, 0, none⟩ = some (.slice none 0 0) := by rw [hwb]; go_simp
  have f1 : wb.frozen? ⟨w.heap.size + 1, 0, none⟩ = false := by rw [hwb]; go_simp
  have HSZ := hid (show w.heap.size + 2 = wb.heap.size by rw [hwb]; simp)
  have HO := hid (own_empty wb wb.heap.size wb.heap.size rfl (Nat.le_refl _) 35 2)
  go_wp2_with (at_builtin; refine wpList_pushS ((w.alloc (.cells #[.slice A L.length c] 33)).alloc (.cells #[.slice none 0 0] 33)) rfl (.tmp 3) (.tmp 5) 31 rfl 35 Try.underlying31 info_PointR rfl (by decide) _ 0 [] rfl (((w.alloc (.cells #[.slice A L.length c] 33)).alloc (.cells #[.slice none 0 0] 33)).alloc (.cells #[] 35)) (own_empty _ _ _ (by simp) (Nat.le_refl _) 35 2) (by repeat (first | exact Ext.refl _ | refine Ext.alloc ?_ _ | assumption | refine Ext.over ?_ _ | refine Ext.drew ?_ | refine Ext.drewN ?_ _)) (by repeat (first | exact Ext.refl _ | refine Ext.alloc ?_ _ | assumption | refine Ext.over ?_ _ | refine Ext.drew ?_ | refine Ext.drewN ?_ _)) A L.length c (L.flatMap T2.v) rfl hnone (by rw [flat_len _ 2 T2.len]) (HL.out.ext (by repeat (first | exact Ext.refl _ | refine Ext.alloc ?_ _ | assumption | refine Ext.over ?_ _ | refine Ext.drew ?_ | refine Ext.drewN ?_ _))) one2 (by omega) (by decide) ?_)
  intro A2 c2 w2 ho he
  rw [← hwb] at he
  have ho : w2.ownsRow (w.heap.size + 1 + 1) 35 2 (.slice A2 L.length c2) L.length (L.flatMap T2.v) := by simpa using ho
  have d1 := old_cell he b1
  have g1 := (Below.frozen he (World.block_lt_of_cell? wb _ b1)).trans f1
  have HO2 := hid ho
  have HE := hid (EB.trans he)
  clear ho he hwb b0 b1 f1 HO
  go_wp2_with fail
  have hsz := HSZ.out
  refine bodyPost_ret (v := .agg #[.slice A2 L.length c2]) (by first | (simp [results, Try.results72, go_sem, d1]; done) | (unfold results; rw [Try.results72]; go_simp)) rfl ?_
  exact ⟨A2, c2, rfl, own_base (own_farR HO2.out (p := ⟨w.heap.size + 1, 0, none⟩) (by show w.heap.size + 1 < w.heap.size + 1 + 1; omega) _) (by omega), HE.out.setCell (by show w.heap.size ≤ w.heap.size + 1; omega) _⟩
end Go.Proofs.Ytkifapcegiajiaa
/-
  As XHer5, for a statement whose last operation may also write what its other operations read. Condition: a Bool on the statement's text, by the kernel: the last operation waits for all others.
-/
namespace Go.Proofs.Ytkifapcegiajiaa
open Go.RowKit
set_option linter.unusedVariables false

section
variable {P : Program} {ops : Array Oper} {md : Region.Mode} {R : World → World → Prop} {z : Nat}

def wpL (P : Program) (md : Region.Mode) (ops : Array Oper) (R : World → World → Prop) (z : Nat) (Q : Act → World → Prop) : Nat → Array Bool → Act → World → Prop
  | 0, listed, a, w => Region.ready md ops listed = [] ∧ Q a w
  | fuel + 1, listed, a, w => (Region.ready md ops listed = [] → Q a w) ∧
      ∀ i ∈ Region.ready md ops listed, herAt P ops i (fun a'' w'' => (i = z ∨ R w w'') ∧ wpL P md ops R z Q fuel (listed.setIfInBounds i true) a'' w'') a w
theorem wpAny_of_L {Q : Act → World → Prop} {Q' : Exit → Act → World → Prop} (hQ : ∀ a w, Q a w → Q' .normal a w) : ∀ (fuel : Nat) (listed : Array Bool) (a : Act) (w : World),
    wpL P md ops R z Q fuel listed a w → wpAny P md ops Q' fuel listed a w
  | 0, _, _, w, h => ⟨h.1, hQ _ _ h.2⟩
  | fuel + 1, _, _, w, h => ⟨fun h0 => hQ _ _ (h.1 h0), fun i hi => wpOp_of_herAt (fun a' w' h' => wpAny_of_L hQ fuel _ a' w' h'.2) (h.2 i hi)⟩
/-- The last operation waits for operation i. -/
def waits (md : Region.Mode) (ops : Array Oper) (z i : Nat) : Bool := match ops[z]? with
  | some o => o.after.any fun e => Region.binds md e && (e.on == i)
  | none => false
theorem waits_spec {i : Nat} (h : waits md ops z i = true) {listed : Array Bool} (hz : z ∈ Region.ready md ops listed) (hi : i ∈ Region.ready md ops listed) : False := by
  obtain ⟨_, oz, hoz, hall⟩ := mem_ready.1 hz
  unfold waits at h
  rw [hoz] at h
  simp only [Array.any_eq_true] at h
  obtain ⟨j, hj, he⟩ := h
  simp only [Bool.and_eq_true, beq_iff_eq] at he
  have h1 := hall _ (Array.getElem_mem hj) he.1
  have h0 := (mem_ready.1 hi).1
  rw [he.2] at h1
  rcases Nat.lt_or_ge i listed.size with h' | h'
  · simp [h'] at h0 h1; rw [h0] at h1; cases h1
  · simp [Array.getElem?_eq_none h'] at h1
theorem wpL_first (hR : Steady R) {Q : Act → World → Prop} {i : Nat} {oi : Oper} {v : Value} (hi : ops[i]? = some oi) (hsel : ∀ (j : Nat) (o : Oper) cs b, ops[j]? = some o → o.op ≠ .select cs b) (hwt : waits md ops z i = true) :
    ∀ (fuel : Nat) (listed : Array Bool) (a : Act) (w : World),
      (∀ j oj, ops[j]? = some oj → j ≠ i → listed.getD j true = false → (∀ e ∈ oj.after, Region.binds md e = true → e.on ≠ i) → oi.apart ops oj = true) →
      i ∈ Region.ready md ops listed → YieldsX P ops R w oi v a →
      wpL P md ops R z Q fuel (listed.setIfInBounds i true) (a.put oi.dst v) w → wpL P md ops R z Q (fuel + 1) listed a w := by
  intro fuel
  induction fuel with
  | zero =>
    intro listed a w _ hr hy H
    refine ⟨fun h => (by rw [h] at hr; cases hr), fun j hj => ?_⟩
    by_cases hji : j = i
    · subst hji
      exact herAt_yieldsX hR hi hy ⟨.inr (hR.1 w), H⟩
    · have := ready_mono hj hji
      rw [H.1] at this
      cases this
  | succ fuel ih =>
    intro listed a w hfree hr hy H
    refine ⟨fun h => (by rw [h] at hr; cases hr), fun j hj => ?_⟩
    by_cases hji : j = i
    · subst hji
      exact herAt_yieldsX hR hi hy ⟨.inr (hR.1 w), H⟩
    · have h1 := H.2 j (ready_mono hj hji)
      have hjz : j ≠ z := fun e => by subst e; exact waits_spec hwt hj hr
      obtain ⟨hjun, oj, hoj, hall⟩ := mem_ready.1 hj
      have hnot : ∀ e ∈ oj.after, Region.binds md e = true → e.on ≠ i := fun e he hb heq => by
        have h1 := hall e he hb
        have h0 := (mem_ready.1 hr).1
        rw [heq] at h1
        rcases Nat.lt_or_ge i listed.size with h' | h'
        · simp [h'] at h0 h1; rw [h0] at h1; cases h1
        · simp [Array.getElem?_eq_none h'] at h1
      have hfree' : ∀ k ok, ops[k]? = some ok → k ≠ i → (listed.setIfInBounds j true).getD k true = false →
          (∀ e ∈ ok.after, Region.binds md e = true → e.on ≠ i) → oi.apart ops ok = true := fun k ok hk hki hun hno => by
        refine hfree k ok hk hki ?_ hno
        by_cases hjk : j = k
        · subst hjk; exact hjun
        · rw [Go.getD_set_ne true hjk] at hun; exact hun
      have hap := hfree j oj hoj hji hjun hnot
      have hsi := fun cs b => hsel i oi cs b hi
      have h2 := herAt_putX hoj hap hsi (fun cs b => hsel j oj cs b hoj) hy h1
      refine herAt_mono (fun a' w' h3 => ?_) h2
      have hRj : R w w' := h3.2.1.resolve_left hjz
      refine ⟨.inr hRj, ih (listed.setIfInBounds j true) a' w' hfree' (ready_mono hr (Ne.symm hji)) (h3.1.later hR hRj) ?_⟩
      rw [Array.setIfInBounds_comm _ _ hji]
      exact h3.2.2
def stepL (P : Program) (ops : Array Oper) (o : Oper) (K : Act → World → Prop) (a : Act) (w : World) : Prop :=
  if Region.wanted o (yielded ops a.tmps) then herOp P o a w K else K (a.put o.dst undef) w
def wpE (P : Program) (ops : Array Oper) (R : World → World → Prop) (w1 : World) (oz : Oper) (Q : Act → World → Prop) : List StO → Act → World → Prop
  | [], a, w => stepL P ops oz Q a w
  | .q o :: r, a, w => if Region.wanted o (yielded ops a.tmps) then qR P R o a w1 (fun a' => wpE P ops R w1 oz Q r a' w) else wpE P ops R w1 oz Q r (a.put o.dst undef) w
  | .u o :: r, a, w => stepH P ops R o (wpE P ops R w1 oz Q r) a w
  | .s o o' :: r, a, w => stepH P ops R o (stepH P ops R o' (wpE P ops R w1 oz Q r)) a w ∧ stepH P ops R o' (stepH P ops R o (wpE P ops R w1 oz Q r)) a w
def okE (md : Region.Mode) (ops : Array Oper) (z : Nat) : List Stp → Array Bool → Bool
  | [], listed => decide (Region.ready md ops listed = [z]) && (Region.ready md ops (listed.setIfInBounds z true)).isEmpty
  | .q i :: r, listed => (Region.ready md ops listed).contains i && Region.free md ops listed i && waits md ops z i && okE md ops z r (listed.setIfInBounds i true)
  | .u i :: r, listed => decide (Region.ready md ops listed = [i]) && okE md ops z r (listed.setIfInBounds i true)
  | .s i j :: r, listed => decide (Region.ready md ops listed = [i, j]) && (decide (Region.ready md ops (listed.setIfInBounds i true) = [j]) && (decide (Region.ready md ops (listed.setIfInBounds j true) = [i]) && okE md ops z r ((listed.setIfInBounds i true).setIfInBounds j true)))
theorem stepH_atL {i : Nat} {o : Oper} {K K' : Act → World → Prop} {a : Act} {w : World} (hR : Steady R) (hi : ops[i]? = some o) (hk : ∀ a'' w'', R w w'' → K a'' w'' → K' a'' w'') (h : stepH P ops R o K a w) :
    herAt P ops i (fun a'' w'' => (i = z ∨ R w w'') ∧ K' a'' w'') a w := herAt_mono (fun _ _ h => ⟨.inr h.1, h.2⟩) (stepH_at hR hi hk h)
theorem wpE_script (hR : Steady R) {l : List Oper} {w1 : World} {oz : Oper} {Q : Act → World → Prop} (hs : Region.noSelect l.toArray = true) (hz : l[z]? = some oz) : ∀ (sc : List Stp) (listed : Array Bool) (a : Act) (w : World), R w1 w →
    okE md l.toArray z sc listed = true → wpE P l.toArray R w1 oz Q (pick l sc) a w → wpL P md l.toArray R z Q (cntS sc + 1) listed a w
  | [], listed, a, w, hb, hB, h => by
    simp only [okE, Bool.and_eq_true, decide_eq_true_eq] at hB
    refine ⟨fun h0 => (by rw [hB.1] at h0; cases h0), fun j hj => ?_⟩
    rw [hB.1] at hj
    obtain rfl : j = z := by simpa using hj
    have hK : ∀ (a'' : Act) (w'' : World), Q a'' w'' → (j = j ∨ R w w'') ∧ wpL P md l.toArray R j Q 0 (listed.setIfInBounds j true) a'' w'' := fun a'' w'' hq => ⟨.inl rfl, by simpa using hB.2, hq⟩
    have h' : stepL P l.toArray oz Q a w := h
    unfold stepL at h'
    unfold herAt
    have hz' : l.toArray[j]? = some oz := by simpa using hz
    rw [hz']; dsimp only
    split
    · rename_i hw
      rw [if_pos hw] at h'
      exact herOp_mono (fun a w h => hK _ _ h) h'
    · rename_i hw
      rw [if_neg hw] at h'
      exact hK _ _ h'
  | .q i :: r, listed, a, w, hb, hB, h => by
    simp only [okE, Bool.and_eq_true] at hB
    obtain ⟨⟨⟨hr, hf⟩, hwt⟩, hB'⟩ := hB
    have hri : i ∈ Region.ready md l.toArray listed := by simpa using hr
    obtain ⟨_, o, ho, _⟩ := mem_ready.1 hri
    have hol : l[i]? = some o := by simpa using ho
    simp only [pick, hol] at h
    unfold wpE at h
    show wpL P md l.toArray R z Q (cntS r + 1 + 1) listed a w
    by_cases hw : Region.wanted o (yielded l.toArray a.tmps) = true
    · rw [if_pos hw] at h
      obtain ⟨v, hv, hK⟩ := h
      exact wpL_first (hR) ho (Region.noSelect_spec hs) hwt (cntS r + 1) listed a w (Region.free_spec ho hf) hri (.inl ⟨hw, fun w0 h0 => hv w0 (hR.2 _ _ _ hb h0)⟩) (wpE_script hR hs hz r _ _ w hb hB' hK)
    · rw [if_neg hw] at h
      exact wpL_first (hR) ho (Region.noSelect_spec hs) hwt (cntS r + 1) listed a w (Region.free_spec ho hf) hri (.inr ⟨by simpa using hw, rfl⟩) (wpE_script hR hs hz r _ _ w hb hB' h)
  | .u i :: r, listed, a, w, hb, hB, h => by
    simp only [okE, Bool.and_eq_true, decide_eq_true_eq] at hB
    have hri : i ∈ Region.ready md l.toArray listed := by rw [hB.1]; simp
    obtain ⟨_, o, ho, _⟩ := mem_ready.1 hri
    have hol : l[i]? = some o := by simpa using ho
    simp only [pick, hol] at h
    unfold wpE at h
    show wpL P md l.toArray R z Q (cntS r + 1 + 1) listed a w
    refine And.intro (fun h0 => by rw [hB.1] at h0; cases h0) (fun j hj => ?_)
    rw [hB.1] at hj
    obtain rfl : j = i := by simpa using hj
    exact stepH_atL (hR) ho (fun a'' w'' hr1 hk => wpE_script hR hs hz r _ _ _ (hR.2 _ _ _ hb hr1) hB.2 hk) h
  | .s i j :: r, listed, a, w, hb, hB, h => by
    simp only [okE, Bool.and_eq_true, decide_eq_true_eq] at hB
    obtain ⟨h1, h2, h3, h4⟩ := hB
    have hri : i ∈ Region.ready md l.toArray listed := by rw [h1]; simp
    have hrj : j ∈ Region.ready md l.toArray listed := by rw [h1]; simp
    obtain ⟨_, o, ho, _⟩ := mem_ready.1 hri
    obtain ⟨_, o', ho', _⟩ := mem_ready.1 hrj
    have hol : l[i]? = some o := by simpa using ho
    have hol' : l[j]? = some o' := by simpa using ho'
    simp only [pick, hol, hol'] at h
    unfold wpE at h
    show wpL P md l.toArray R z Q (cntS r + 1 + 1 + 1) listed a w
    refine And.intro (fun h0 => by rw [h1] at h0; cases h0) (fun q hq => ?_)
    rw [h1] at hq
    by_cases hqi : q = i
    · subst hqi
      refine stepH_atL (hR) ho (fun a'' w'' hr1 hk => ?_) h.1
      refine And.intro (fun h0 => by rw [h2] at h0; cases h0) (fun p hp => ?_)
      rw [h2] at hp
      obtain rfl : p = j := by simpa using hp
      exact stepH_atL (hR) ho' (fun a3 w3 hR3 hk3 => wpE_script hR hs hz r _ _ _ (hR.2 _ _ _ hb (hR.2 _ _ _ hr1 hR3)) h4 hk3) hk
    · obtain rfl : q = j := by
        rcases (show q = i ∨ q = j by simpa using hq) with h5 | h5
        · exact absurd h5 hqi
        · exact h5
      refine stepH_atL (hR) ho' (fun a'' w'' hr1 hk => ?_) h.2
      refine And.intro (fun h0 => by rw [h3] at h0; cases h0) (fun p hp => ?_)
      rw [h3] at hp
      obtain rfl : p = i := by simpa using hp
      exact stepH_atL (hR) ho (fun a3 w3 hR3 hk3 => wpE_script hR hs hz r _ _ _ (hR.2 _ _ _ hb (hR.2 _ _ _ hr1 hR3)) (by rw [Array.setIfInBounds_comm _ _ hqi]; exact h4) hk3) hk
theorem wp_region_e (R : World → World → Prop) (hR : Steady R) {id : Nat} {Q : Exit → Act → World → Prop} {a : Act} {w : World} {l : List Oper} (sc : List Stp) (z : Nat) (oz : Oper) (hz : l[z]? = some oz) (hm : P.follows .mixedOrders = true)
    (hB : (Region.noSelect l.toArray && decide (cntS sc + 1 = l.length) && okE .any l.toArray z sc (Array.replicate l.length false)) = true)
    (h : ∀ w1, Ext w w1 → wpE P l.toArray R w1 oz (fun a'' w'' => Q .normal a'' w'') (pick l sc) a w1) : (Code.region id l.toArray true).wp P Q a w := by
  simp only [Bool.and_eq_true, decide_eq_true_eq] at hB
  obtain ⟨⟨h1, h2⟩, h3⟩ := hB
  refine wp_region_any hm ?_
  have h4 := wpE_script (md := .any) (w1 := w.drew) hR h1 hz sc (Array.replicate l.length false) a w.drew (hR.1 _) h3 (h w.drew (Below.drew (Below.refl _ _)))
  rw [h2] at h4
  simpa using wpAny_of_L (fun a w h => h) _ _ _ _ h4
theorem wpE_nil {w1 : World} {oz : Oper} {Q : Act → World → Prop} {a : Act} {w : World} (h : ∀ K : Act → World → Prop, (∀ a w, Q a w → K a w) → if Region.wanted oz (yielded ops a.tmps) then herOp P oz a w K else K (a.put oz.dst undef) w) : wpE P ops R w1 oz Q [] a w := h _ (fun _ _ h => h)
theorem wpE_q {w1 : World} {oz : Oper} {Q : Act → World → Prop} {a : Act} {w : World} {o : Oper} {r : List StO}
    (h : ∀ K : Act → Prop, (∀ a, wpE P ops R w1 oz Q r a w → K a) → if Region.wanted o (yielded ops a.tmps) then qR P R o a w1 K else K (a.put o.dst undef)) : wpE P ops R w1 oz Q (.q o :: r) a w :=
  h _ (fun _ h => h)
theorem wpE_u {w1 : World} {oz : Oper} {Q : Act → World → Prop} {a : Act} {w : World} {o : Oper} {r : List StO} (h : stepH P ops R o (wpE P ops R w1 oz Q r) a w) : wpE P ops R w1 oz Q (.u o :: r) a w := h
theorem wpE_s {w1 : World} {oz : Oper} {Q : Act → World → Prop} {a : Act} {w : World} {o o' : Oper} {r : List StO} (h : stepH P ops R o (stepH P ops R o' (wpE P ops R w1 oz Q r)) a w) (h' : stepH P ops R o' (stepH P ops R o (wpE P ops R w1 oz Q r)) a w) : wpE P ops R w1 oz Q (.s o o' :: r) a w := ⟨h, h'⟩
end
end Go.Proofs.Ytkifapcegiajiaa
/- Walks: a point is drawn. Conditions: sizes. -/
namespace Go.Proofs.Ytkifapcegiajiaa
open Go.RowKit
set_option linter.unusedVariables false

theorem Drawn.of_ext {w w1 w2 : World} {g : Nat} (e : Ext w w1) (h : Drawn w1 w2 g) : Drawn w w2 g := ⟨grown_then (ext_grown e (some g)) h.1 (.inl rfl), h.2⟩
/-- A write to memory that was made since. -/
theorem Drawn.setc {w w1 : World} {g b i : Nat} (h : Drawn w w1 g) (hb : w.heap.size ≤ b) (hg : g < w.heap.size) (u : Value) : Drawn w (w1.setCell ⟨b, i, none⟩ u) g :=
  h.grown (row := some b) (only_setCell (g := b) (p := ⟨b, i, none⟩) (World.grownBy.refl _ _) (.inl rfl) u) hg (fun k hk => by injection hk with hk; omega)
set_option maxRecDepth 100000 in
set_option maxHeartbeats 1600000 in
theorem l02Point_any (g : Nat) (w : World) (hc : Cur w g) : Calls Try.prog 97 #[.pointer (some ⟨g, 0, none⟩)] w fun e w' => ∃ x y : Int, e = .returned (.agg #[.int .i64 x, .int .i64 y]) ∧ (-2 ≤ x ∧ x ≤ 6) ∧ (-2 ≤ y ∧ y ≤ 6) ∧ Drawn w w' g := by
  have hlow := hc.lt
  have HC := hid hc
  clear hc
  go_enter Try.func97, Try.ntmps97
  go_wp2_with fail
  refine (l01Below_any g 9 _ (HC.out.ext (by repeat (first | exact Ext.refl _ | refine Ext.alloc ?_ _ | assumption | refine Ext.over ?_ _ | refine Ext.drew ?_ | refine Ext.drewN ?_ _))) (by omega)).mono ?_
  rintro _ w1 ⟨v, rfl, v0, v1, hd⟩
  have p0 : w1.cell? ⟨w.heap.size, 0, none⟩ = some (.int .i64 0) := (hd.cell (p := ⟨w.heap.size, 0, none⟩) (by simp) (by show w.heap.size ≠ g; omega)).trans (by go_simp)
  have p1 : w1.cell? ⟨w.heap.size, 1, none⟩ = some (.int .i64 0) := (hd.cell (p := ⟨w.heap.size, 1, none⟩) (by simp) (by show w.heap.size ≠ g; omega)).trans (by go_simp)
  have b1 : w1.heap[w.heap.size]? = (w.alloc (.cells #[.int .i64 0, .int .i64 0] 35)).heap[w.heap.size]? := hd.1.block _ (by simp) (by intro e; injection e with e; omega)
  have q0 : w1.frozen? ⟨w.heap.size, 0, none⟩ = false := (World.frozen?_of_block (a := ⟨w.heap.size, 0, none⟩) b1).trans (by go_simp)
  have q1 : w1.frozen? ⟨w.heap.size, 1, none⟩ = false := (World.frozen?_of_block (a := ⟨w.heap.size, 1, none⟩) b1).trans (by go_simp)
  have HD1 := hid (Drawn.of_ext (show Ext w _ by repeat (first | exact Ext.refl _ | refine Ext.alloc ?_ _ | assumption | refine Ext.over ?_ _ | refine Ext.drew ?_ | refine Ext.drewN ?_ _)) hd)
  have hs1 := hd.size
  have hsz1 : w.heap.size < w1.heap.size := by simp at hs1; omega
  clear hd b1 hs1
  go_wp2_with fail
  refine (l01Below_any g 9 w1 HD1.out.2 (by omega)).mono ?_
  rintro _ w2 ⟨u, rfl, u0, u1, hd⟩
  have b2 : w2.heap[w.heap.size]? = w1.heap[w.heap.size]? := hd.1.block _ hsz1 (by intro e; injection e with e; omega)
  have p0 := (World.cell?_of_block (a := ⟨w.heap.size, 0, none⟩) b2).trans p0
  have p1 := (World.cell?_of_block (a := ⟨w.heap.size, 1, none⟩) b2).trans p1
  have q0 := (World.frozen?_of_block (a := ⟨w.heap.size, 0, none⟩) b2).trans q0
  have q1 := (World.frozen?_of_block (a := ⟨w.heap.size, 1, none⟩) b2).trans q1
  have HD2 := hid (HD1.out.trans hd)
  have hx : wrap64 (v - 2) = v - 2 := IntWalk.wrap64_in _ (by omega)
  have hy : wrap64 (u - 2) = u - 2 := IntWalk.wrap64_in _ (by omega)
  clear hd b2 HD1
  go_wp2_with fail
  refine bodyPost_ret (v := .agg #[.int .i64 (v - 2), .int .i64 (u - 2)]) (by first | (simp [results, Try.results97, go_sem, p0, p1]; done) | (unfold results; rw [Try.results97]; go_simp)) rfl ?_
  exact ⟨v - 2, u - 2, rfl, by omega, by omega, (HD2.out.setc (Nat.le_refl _) hlow _).setc (Nat.le_refl _) hlow _⟩
end Go.Proofs.Ytkifapcegiajiaa
/- Walks: a room is drawn. Conditions: sizes. -/
namespace Go.Proofs.Ytkifapcegiajiaa
open Go.RowKit
set_option linter.unusedVariables false

def Box (w : World) (b : Nat) (v : Value) : Prop := w.cell? ⟨b, 0, none⟩ = some v ∧ w.frozen? ⟨b, 0, none⟩ = false
theorem Box.lt {w : World} {b : Nat} {v : Value} (h : Box w b v) : b < w.heap.size := World.block_lt_of_cell? w _ h.1
theorem Box.blk {w w' : World} {b : Nat} {v : Value} (h : Box w b v) (hb : w'.heap[b]? = w.heap[b]?) : Box w' b v := ⟨(World.cell?_of_block (a := ⟨b, 0, none⟩) hb).trans h.1, (World.frozen?_of_block (a := ⟨b, 0, none⟩) hb).trans h.2⟩
theorem Box.ext {w w' : World} {b : Nat} {v : Value} (h : Box w b v) (he : Ext w w') : Box w' b v := h.blk (he.block _ h.lt)
theorem Box.grown {w w' : World} {b : Nat} {v : Value} (h : Box w b v) {row : Option Nat} (hg : w.grownBy w' row) (hne : row ≠ some b) : Box w' b v := h.blk (hg.block _ h.lt (fun e => hne e.symm))
theorem Box.put {w : World} {b : Nat} {v : Value} (h : Box w b v) (u : Value) : Box (w.setCell ⟨b, 0, none⟩ u) b u := by
  have hc := h.1
  have hf := h.2
  exact ⟨by go_simp, (froz_set _).trans hf⟩
theorem flat_set0 : ∀ {L : List T2} {i : Nat} (x : Int), i < L.length → (L.flatMap T2.v).set (i * 2) (.int .i64 x) = (L.set i ⟨x, (at2 L i).b⟩).flatMap T2.v
  | a :: l, 0, x, _ => rfl
  | a :: l, i + 1, x, h => by
    have ih := flat_set0 (L := l) (i := i) x (by simpa using h)
    have e : at2 (a :: l) (i + 1) = at2 l i := rfl
    rw [e, List.set_cons_succ, List.flatMap_cons, List.flatMap_cons, ← ih, show (i + 1) * 2 = i * 2 + 1 + 1 by omega]
    rfl
theorem flat_set1 : ∀ {L : List T2} {i : Nat} (x : Int), i < L.length → (L.flatMap T2.v).set (i * 2 + 1) (.int .i64 x) = (L.set i ⟨(at2 L i).a, x⟩).flatMap T2.v
  | a :: l, 0, x, _ => rfl
  | a :: l, i + 1, x, h => by
    have ih := flat_set1 (L := l) (i := i) x (by simpa using h)
    have e : at2 (a :: l) (i + 1) = at2 l i := rfl
    rw [e, List.set_cons_succ, List.flatMap_cons, List.flatMap_cons, ← ih, show (i + 1) * 2 + 1 = (i * 2 + 1) + 1 + 1 by omega]
    rfl
theorem at2_set {L : List T2} {i j : Nat} {p : T2} (hi : i < L.length) : at2 (L.set i p) j = if i = j then p else at2 L j := by
  unfold at2
  rw [List.getD_eq_getElem?_getD, List.getElem?_set, List.getD_eq_getElem?_getD]
  split
  · rename_i e; subst e; simp
  · rfl
/-- What the draw of a room keeps: the cursor, the result's box, the room's box and row. -/
structure Rm (w0 w : World) (g b2 br : Nat) (A : Option Addr) (n c : Nat) (L : List T2) : Prop where
  cur : Cur w g
  grow : w0.grownBy w (some g)
  low : g < w0.heap.size
  le2 : w0.heap.size ≤ b2
  ler : w0.heap.size ≤ br
  ne : b2 ≠ br
  x2 : Box w b2 (.slice none 0 0)
  xr : Box w br (.slice A n c)
  own : w.ownsRow w0.heap.size 35 2 (.slice A n c) n (L.flatMap T2.v)
  far : ∀ j, (Value.slice A n c).ownBlock = some j → j ≠ b2 ∧ j ≠ br
section
variable {w0 w w' : World} {g b2 br : Nat} {A : Option Addr} {n c : Nat} {L : List T2}
theorem Rm.ext (s : Rm w0 w g b2 br A n c L) (he : Ext w w') : Rm w0 w' g b2 br A n c L :=
  ⟨s.cur.ext he, grown_then s.grow (ext_grown he (some g)) (.inl rfl), s.low, s.le2, s.ler, s.ne, s.x2.ext he, s.xr.ext he, own_ext s.own he, s.far⟩
theorem Rm.drawn (s : Rm w0 w g b2 br A n c L) (hd : Drawn w w' g) : Rm w0 w' g b2 br A n c L :=
  have h1 := s.low
  have h2 := s.le2
  have h3 := s.ler
  ⟨hd.2, grown_then s.grow hd.1 (.inl rfl), s.low, s.le2, s.ler, s.ne, s.x2.grown hd.1 (by intro e; injection e with e; omega), s.xr.grown hd.1 (by intro e; injection e with e; omega), hd.own s.own s.low, s.far⟩
theorem Rm.other (s : Rm w0 w g b2 br A n c L) {k : Nat} (hg : w.grownBy w' (some k)) (h0 : w0.heap.size ≤ k) (h2 : k ≠ b2) (hr : k ≠ br) (ho : (Value.slice A n c).ownBlock ≠ some k) : Rm w0 w' g b2 br A n c L :=
  have h1 := s.low
  ⟨s.cur.kept hg (fun j hj => by injection hj with hj; omega), grown_then s.grow hg (.inr fun j hj => by injection hj with hj; omega), s.low, s.le2, s.ler, s.ne, s.x2.grown hg (by intro e; injection e with e; exact h2 e), s.xr.grown hg (by intro e; injection e with e; exact hr e), s.own.kept hg (.inr fun e => ho e), s.far⟩
theorem Rm.swap (s : Rm w0 w g b2 br A n c L) {A' : Option Addr} {c' : Nat} {L' : List T2} (ho : w.ownsRow w0.heap.size 35 2 (.slice A' n c') n (L'.flatMap T2.v)) (hf : ∀ j, (Value.slice A' n c').ownBlock = some j → j ≠ b2 ∧ j ≠ br) : Rm w0 (w.setCell ⟨br, 0, none⟩ (.slice A' n c')) g b2 br A' n c' L' := by
  have h1 := s.low
  have h3 := s.ler
  have hg : w.grownBy (w.setCell ⟨br, 0, none⟩ (.slice A' n c')) (some br) := only_setCell (g := br) (p := ⟨br, 0, none⟩) (World.grownBy.refl _ _) (.inl rfl) _
  exact ⟨s.cur.kept hg (fun j hj => by injection hj with hj; omega), grown_then s.grow hg (.inr fun j hj => by injection hj with hj; omega), s.low, s.le2, s.ler, s.ne, s.x2.grown hg (by intro e; injection e with e; exact s.ne e.symm), s.xr.put _, ho.kept hg (.inr fun e => (hf _ e).2 rfl), hf⟩
end
theorem RoomN.mono {m k : Int} {L : List T2} (h : RoomN m L) (hk : m ≤ k) : RoomN k L := ⟨h.1, fun j hj => by have := h.2 j hj; unfold near at *; omega⟩
theorem RoomN.len {m : Int} {L : List T2} (h : RoomN m L) : 3 ≤ L.length ∧ L.length ≤ 10 := ⟨(roomP_of h.1).lo, (roomP_of h.1).hi⟩
/-- What the last loop keeps: all but one box is as it was; the list so far; the point's box. -/
structure Pz (w8 w : World) (b8 bp : Nat) (B : Option Addr) (k d : Nat) (M : List T2) : Prop where
  grow : w8.grownBy w (some b8)
  box : Box w b8 (.slice B k d)
  own : w.ownsRow w8.heap.size 35 2 (.slice B k d) k (M.flatMap T2.v)
  le : w8.heap.size ≤ bp
  low : b8 < w8.heap.size
  far : (Value.slice B k d).ownBlock ≠ some bp
theorem Pz.put {w8 w : World} {b8 bp : Nat} {B : Option Addr} {k d : Nat} {M : List T2} (s : Pz w8 w b8 bp B k d M) (i : Nat) (u : Value) : Pz w8 (w.setCell ⟨bp, i, none⟩ u) b8 bp B k d M := by
  have h1 := s.le
  have h2 := s.low
  have hg : w.grownBy (w.setCell ⟨bp, i, none⟩ u) (some bp) := only_setCell (g := bp) (p := ⟨bp, i, none⟩) (World.grownBy.refl _ _) (.inl rfl) u
  exact ⟨grown_then s.grow hg (.inr fun j hj => by injection hj with hj; omega), s.box.grown hg (by intro e; injection e with e; omega), s.own.kept hg (.inr s.far), s.le, s.low, s.far⟩
theorem Pz.push {w8 w w' : World} {b8 bp : Nat} {B B' : Option Addr} {k d d' : Nat} {M M' : List T2} (s : Pz w8 w b8 bp B k d M) (ho : w'.ownsRow w8.heap.size 35 2 (.slice B' (k + 1) d') (k + 1) (M'.flatMap T2.v)) (hg : w.grownBy w' (Value.slice B k d).ownBlock) :
    Box w' b8 (.slice B k d) ∧ w8.grownBy (w'.setCell ⟨b8, 0, none⟩ (.slice B' (k + 1) d')) (some b8) ∧ Box (w'.setCell ⟨b8, 0, none⟩ (.slice B' (k + 1) d')) b8 (.slice B' (k + 1) d') ∧ (w'.setCell ⟨b8, 0, none⟩ (.slice B' (k + 1) d')).ownsRow w8.heap.size 35 2 (.slice B' (k + 1) d') (k + 1) (M'.flatMap T2.v) := by
  have h2 := s.low
  have hl := s.own.lt
  have hb := s.box.grown hg (fun e => by have := hl _ e; omega)
  have hg2 : w'.grownBy (w'.setCell ⟨b8, 0, none⟩ (.slice B' (k + 1) d')) (some b8) := only_setCell (g := b8) (p := ⟨b8, 0, none⟩) (World.grownBy.refl _ _) (.inl rfl) _
  exact ⟨hb, grown_then (grown_then s.grow hg (.inr fun j hj => (hl j hj).1)) hg2 (.inl rfl), hb.put _, ho.kept hg2 (.inr fun e => by have := (ho.lt _ e).1; omega)⟩
set_option maxRecDepth 100000 in
set_option maxHeartbeats 3200000 in
theorem l04Room_any (g : Nat) (w : World) (hc : Cur w g) : Calls Try.prog 43 #[.pointer (some ⟨g, 0, none⟩)] w fun e w' => ∃ (A : Option Addr) (n c : Nat) (L : List T2), e = .returned (.agg #[.slice A n c]) ∧ L.length = n ∧ RoomN 18 L ∧ w'.ownsRow w.heap.size 35 2 (.slice A n c) n (L.flatMap T2.v) ∧ Drawn w w' g := by
  have hlow := hc.lt
  have HC := hid hc
  clear hc
  go_enter Try.func43, Try.ntmps43
  go_wp2_with fail
  have HX2 := hid (show Box (w.alloc (.cells #[.slice none 0 0] 33)) w.heap.size (.slice none 0 0) from ⟨by go_simp, by go_simp⟩)
  refine (l01Below_any g 8 _ (HC.out.ext (by repeat (first | exact Ext.refl _ | refine Ext.alloc ?_ _ | assumption | refine Ext.over ?_ _ | refine Ext.drew ?_ | refine Ext.drewN ?_ _))) (by omega)).mono ?_
  rintro _ w1 ⟨v, rfl, v0, v1, hd⟩
  have HX2 := hid (HX2.out.grown hd.1 (by intro e; injection e with e; omega))
  have HD1 := hid (Drawn.of_ext (show Ext w _ by repeat (first | exact Ext.refl _ | refine Ext.alloc ?_ _ | assumption | refine Ext.over ?_ _ | refine Ext.drew ?_ | refine Ext.drewN ?_ _)) hd)
  clear hd
  go_wp2_with fail
  refine (l04Shape_any v (by omega) w1).mono ?_
  rintro _ w2 ⟨A, n, L, rfl, hll, hrm, ho, he⟩
  have HRM := hid hrm
  have hb := hrm.len
  rw [hll] at hb
  have HLL := hid hll
  obtain ⟨w3, hw3⟩ : ∃ w3, w3 = w2.alloc (.cells #[.slice A n n] 33) := ⟨_, rfl⟩
  have e3 : Ext w2 w3 := by rw [hw3]; repeat (first | exact Ext.refl _ | refine Ext.alloc ?_ _ | assumption | refine Ext.over ?_ _ | refine Ext.drew ?_ | refine Ext.drewN ?_ _)
  have hs1 : w.heap.size < w1.heap.size := HX2.out.lt
  have hs2 := he.size
  have S := hid (show Rm w w3 g w.heap.size w2.heap.size A n n L from ⟨(HD1.out.2.ext he).ext e3, grown_then (grown_then HD1.out.1 (ext_grown he (some g)) (.inl rfl)) (ext_grown e3 (some g)) (.inl rfl), hlow, Nat.le_refl _, by omega, by omega, (HX2.out.ext he).ext e3, ⟨by rw [hw3]; go_simp, by rw [hw3]; go_simp⟩, own_ext (own_base ho (by omega)) e3, fun j hj => by
    have := ho.lt j hj
    omega⟩)
  clear HD1 HX2 ho he hrm hll v0 v1
  go_wp2_with fail
  rw [← hw3]
  clear hw3 e3
  generalize w2.heap.size = br at S ⊢
  have hxr := S.out.xr.1
  go_wp2_with fail
  refine (l01Below_any g 4 w3 S.out.cur (by omega)).mono ?_
  rintro _ w4 ⟨k0, rfl, v0, v1, hd⟩
  have S4 := hid (S.out.drawn hd)
  obtain ⟨k0, rfl⟩ : ∃ q : Nat, k0 = q := ⟨k0.toNat, by omega⟩
  have hk0 : k0 ≤ 3 := by omega
  have HRM := hid (HRM.out.mono (show (10 : Int) ≤ 16 - 2 * (k0 : Int) by omega))
  clear hd v0 v1 S hxr hs1 hs2
  go_wp2_with fail
  go_loopw [5, 6] (fun kv iv wr => ∃ (k : Nat) (A : Option Addr) (c : Nat) (L : List T2), k ≤ 3 ∧ kv = .int .i64 ↑k ∧ L.length = n ∧ RoomN (16 - 2 * (k : Int)) L ∧ Rm w wr g w.heap.size br A n c L) (fun kv _ _ => (intOf kv).toNat)
  case atStart => exact ⟨k0, A, n, L, hk0, rfl, HLL.out, HRM.out, S4.out⟩
  case round =>
    clear S4 HRM HLL
    obtain ⟨k, A, c, L, hk, rfl, hll, hrm, hs⟩ := hrel
    have HRM := hid hrm
    have HLL := hid hll
    have S := hid hs
    clear hll hrm hs
    by_cases hlt : 0 < k
    · have hkt : (0 : Int) < k := by omega
      go_wp2_with fail
      refine (l01Below_any g n wr S.out.cur (by omega)).mono ?_
      rintro _ w5 ⟨i, rfl, v0, v1, hd⟩
      obtain ⟨i, rfl⟩ : ∃ q : Nat, i = q := ⟨i.toNat, by omega⟩
      have hin : i < n := by omega
      have hin' : (i : Int) < n := by omega
      have S5 := hid (S.out.drawn hd)
      have hxr := S5.out.xr.1
      clear hd v0 v1 S
      go_wp2_with fail
      refine (l04Copy_any A n c L w5 (Row.of_own S5.out.own) HLL.out (by omega) (own_none S5.out.own)).mono ?_
      rintro _ w6 ⟨X, d, rfl, ho, he⟩
      obtain ⟨gx, hX⟩ := own_addr ho (by omega)
      subst hX
      obtain ⟨w7, hw7⟩ : ∃ w7, w7 = w6.alloc (.cells #[.slice (some ⟨gx, 0, none⟩) n d] 33) := ⟨_, rfl⟩
      have e7 : Ext w6 w7 := by rw [hw7]; repeat (first | exact Ext.refl _ | refine Ext.alloc ?_ _ | assumption | refine Ext.over ?_ _ | refine Ext.drew ?_ | refine Ext.drewN ?_ _)
      have hgx := ho.lt gx rfl
      have h5r := S5.out.xr.lt
      have h52 := S5.out.x2.lt
      have h5A := S5.out.own.lt
      have hgr := S5.out.grow.size
      have S7 := hid ((S5.out.ext he).ext e7)
      have HO7 := hid (own_ext ho e7)
      have HXB := hid (show Box w7 w6.heap.size (.slice (some ⟨gx, 0, none⟩) n d) from ⟨by rw [hw7]; go_simp, by rw [hw7]; go_simp⟩)
      obtain ⟨bx, hbx⟩ : ∃ bx, bx = w6.heap.size := ⟨_, rfl⟩
      have h6 := he.size
      have HNE := hid (show w.heap.size ≤ gx ∧ w.heap.size ≤ bx ∧ gx ≠ br ∧ gx ≠ w.heap.size ∧ bx ≠ br ∧ bx ≠ w.heap.size ∧ gx ≠ bx ∧ (Value.slice A n c).ownBlock ≠ some gx ∧ (Value.slice A n c).ownBlock ≠ some bx ∧ gx ≠ g ∧ bx ≠ g by
        have hl := S5.out.low
        refine ⟨by omega, by omega, by omega, by omega, by omega, by omega, by omega, fun e => ?_, fun e => ?_, by omega, by omega⟩
        · have := h5A _ e; omega
        · have := h5A _ e; omega)
      have HLW := hid (show g < w5.heap.size by have := S5.out.low; omega)
      have SZ5 := hid (show w.heap.size ≤ w5.heap.size from hgr)
      clear S5 ho he hgx h5r h52 h5A hgr h6 hxr
      go_wp2_with fail
      rw [← hw7]
      rw [← hbx] at HXB ⊢
      clear hw7 e7 hbx
      have HLOW5 := hid HLW.out
      have HOAL := hid (show L.length = n from HLL.out)
      have HOAN := hid (show ∀ j, j < n → near (16 - 2 * (k : Int) + 0) (at2 L j) from fun j hj => by rw [Int.add_zero]; exact HRM.out.2 j (by rw [HLL.out]; exact hj))
      have HOA := hid HO7.out
      have XBA := hid HXB.out
      have SA := hid S7.out
      clear HO7 HXB S7
      have hxb := XBA.out.1
      have hLi : i < L.length := by rw [HOAL.out]; exact hin
      obtain ⟨bk, off, hB, hc⟩ := (Row.of_own HOA.out).t2 hLi
      cases hB
      obtain ⟨c1, c2⟩ := hc i hLi
      rw [Nat.zero_add] at c1 c2
      have hbg : ¬ bx = g := HNE.out.2.2.2.2.2.2.2.2.2.2
      have hgg : ¬ gx = g := HNE.out.2.2.2.2.2.2.2.2.2.1
      have hnr := HOAN.out i hin
      have hin2 : i < n := hin
      refine wp_region_e (LaterG g g) (laterG_steady _ _) [.q 0, .q 1, .q 2, .q 3, .q 4, .q 5, .q 6, .q 7, .q 8, .q 9, .u 10, .u 11, .u 12, .u 13, .u 14] 15 _ rfl (by kernel_rfl) (by kernel_rfl) (fun w8 e8 => ?_)
      have e8' : Ext w7 w8 := Ext.trans (by repeat (first | exact Ext.refl _ | refine Ext.alloc ?_ _ | assumption | refine Ext.over ?_ _ | refine Ext.drew ?_ | refine Ext.drewN ?_ _)) e8
      have T8 := hid (SA.out.ext e8')
      have HP8 := hid (own_ext HOA.out e8')
      have HB8 := hid (XBA.out.ext e8')
      have c1 := old_cell e8' c1
      have c2 := old_cell e8' c2
      have hxb := HB8.out.1
      clear e8 e8' SA XBA hc
      simp only [pick, List.getElem?_cons_succ, List.getElem?_cons_zero]
      repeat (refine wpE_q (fun K hK => ?_); go_simp; refine hK _ ?_; clear hK K)
      refine wpE_u ?_
      refine stepH_of (fun K hK => ?_)
      go_simp
      refine (l01Below_any g 3 w8 T8.out.cur (by omega)).mono ?_
      rintro _ w9 ⟨v, rfl, v0, v1, hd⟩
      refine ⟨_, rfl, hK _ _ (laterG_of (Kept.grown hd.1)) ?_⟩; clear hK K
      have T9 := hid (T8.out.drawn hd)
      have HP9 := hid (hd.own HP8.out HLOW5.out)
      have HB9 := hid (HB8.out.grown hd.1 (by intro e; injection e with e; exact hbg e.symm))
      clear hd T8 HP8 HB8 c1 c2 hxb
      have hxb := HB9.out.1
      ((first | refine wpE_u ?_ | skip); refine stepH_of (fun K hK => ?_); go_simp; refine hK _ _ (laterG_of (Kept.refl _ _ _)) ?_; clear hK K)
      ((first | refine wpE_u ?_ | skip); refine stepH_of (fun K hK => ?_); go_simp; refine hK _ _ (laterG_of (Kept.refl _ _ _)) ?_; clear hK K)
      ((first | refine wpE_u ?_ | skip); refine stepH_of (fun K hK => ?_); go_simp; refine hK _ _ (laterG_of (Kept.refl _ _ _)) ?_; clear hK K)
      ((first | refine wpE_u ?_ | skip); refine stepH_of (fun K hK => ?_); go_simp; refine hK _ _ (laterG_of (Kept.refl _ _ _)) ?_; clear hK K)
      obtain ⟨u0, o0, f0⟩ := own_some HP9.out (i * 2) (by omega)
      refine wpE_nil (fun K hK => ?_)
      go_simp
      refine hK _ _ ?_; clear hK K
      have hz : IntKind.i64.wrap (IntKind.i64.wrap ((at2 L i).a + v) - 1) = (at2 L i).a + v - 1 := by
        have := hnr; unfold near at this
        rw [IntWalk.i64_in ((at2 L i).a + v) (by omega), IntWalk.i64_in _ (by omega)]
      rw [hz]
      have hst := HP9.out.stored (i * 2) (.int .i64 ((at2 L i).a + v - 1))
      obtain ⟨w10, hw10⟩ : ∃ w10, w10 = w9.setCell ⟨gx, i * 2, none⟩ (.int .i64 ((at2 L i).a + v - 1)) := ⟨_, rfl⟩
      rw [← hw10] at hst ⊢
      have SB := hid (T9.out.other hst.2 HNE.out.1 HNE.out.2.2.2.1 HNE.out.2.2.1 HNE.out.2.2.2.2.2.2.2.1)
      obtain ⟨LB, hLB⟩ : ∃ l, l = L.set i ⟨(at2 L i).a + v - 1, (at2 L i).b⟩ := ⟨_, rfl⟩
      have HOB := hid (show w10.ownsRow w5.heap.size 35 2 (.slice (some ⟨gx, 0, none⟩) n d) n (LB.flatMap T2.v) by rw [hLB, ← flat_set0 _ hLi]; exact hst.1)
      have HOBL := hid (show LB.length = n by rw [hLB, List.length_set]; exact HOAL.out)
      have HOBN := hid (show ∀ j, j < n → near (16 - 2 * (k : Int) + 1) (at2 LB j) from fun j hj => by
        rw [hLB, at2_set hLi]
        have hx := HOAN.out j hj
        unfold near at hx hnr ⊢
        split
        · rename_i e; subst e; dsimp only; omega
        · omega)
      have XBB := hid (HB9.out.grown hst.2 (by intro e; injection e with e; exact HNE.out.2.2.2.2.2.2.1 e))
      clear hst hw10 hz T9 HP9 HB9 f0 o0 hLB hnr v0 v1 HOA HOAL HOAN hxb hLi
      have hxb := XBB.out.1
      go_wp2_with fail
      rename World => w7b
      have hxb := XBB.out.1
      have hLi : i < LB.length := by rw [HOBL.out]; exact hin
      obtain ⟨bk, off, hB, hc⟩ := (Row.of_own HOB.out).t2 hLi
      cases hB
      obtain ⟨c1, c2⟩ := hc i hLi
      rw [Nat.zero_add] at c1 c2
      have hbg : ¬ bx = g := HNE.out.2.2.2.2.2.2.2.2.2.2
      have hgg : ¬ gx = g := HNE.out.2.2.2.2.2.2.2.2.2.1
      have hnr := HOBN.out i hin
      have hin2 : i < n := hin
      refine wp_region_e (LaterG g g) (laterG_steady _ _) [.q 0, .q 1, .q 2, .q 3, .q 4, .q 5, .q 6, .q 7, .q 8, .q 9, .u 10, .u 11, .u 12, .u 13, .u 14] 15 _ rfl (by kernel_rfl) (by kernel_rfl) (fun w8 e8 => ?_)
      have e8' : Ext w7b w8 := Ext.trans (by repeat (first | exact Ext.refl _ | refine Ext.alloc ?_ _ | assumption | refine Ext.over ?_ _ | refine Ext.drew ?_ | refine Ext.drewN ?_ _)) e8
      have T8 := hid (SB.out.ext e8')
      have HP8 := hid (own_ext HOB.out e8')
      have HB8 := hid (XBB.out.ext e8')
      have c1 := old_cell e8' c1
      have c2 := old_cell e8' c2
      have hxb := HB8.out.1
      clear e8 e8' SB XBB hc
      simp only [pick, List.getElem?_cons_succ, List.getElem?_cons_zero]
      repeat (refine wpE_q (fun K hK => ?_); go_simp; refine hK _ ?_; clear hK K)
      refine wpE_u ?_
      refine stepH_of (fun K hK => ?_)
      go_simp
      refine (l01Below_any g 3 w8 T8.out.cur (by omega)).mono ?_
      rintro _ w9 ⟨v, rfl, v0, v1, hd⟩
      refine ⟨_, rfl, hK _ _ (laterG_of (Kept.grown hd.1)) ?_⟩; clear hK K
      have T9 := hid (T8.out.drawn hd)
      have HP9 := hid (hd.own HP8.out HLOW5.out)
      have HB9 := hid (HB8.out.grown hd.1 (by intro e; injection e with e; exact hbg e.symm))
      clear hd T8 HP8 HB8 c1 c2 hxb
      have hxb := HB9.out.1
      ((first | refine wpE_u ?_ | skip); refine stepH_of (fun K hK => ?_); go_simp; refine hK _ _ (laterG_of (Kept.refl _ _ _)) ?_; clear hK K)
      ((first | refine wpE_u ?_ | skip); refine stepH_of (fun K hK => ?_); go_simp; refine hK _ _ (laterG_of (Kept.refl _ _ _)) ?_; clear hK K)
      ((first | refine wpE_u ?_ | skip); refine stepH_of (fun K hK => ?_); go_simp; refine hK _ _ (laterG_of (Kept.refl _ _ _)) ?_; clear hK K)
      ((first | refine wpE_u ?_ | skip); refine stepH_of (fun K hK => ?_); go_simp; refine hK _ _ (laterG_of (Kept.refl _ _ _)) ?_; clear hK K)
      obtain ⟨u0, o0, f0⟩ := own_some HP9.out (i * 2 + 1) (by omega)
      refine wpE_nil (fun K hK => ?_)
      go_simp
      refine hK _ _ ?_; clear hK K
      have hz : IntKind.i64.wrap (IntKind.i64.wrap ((at2 LB i).b + v) - 1) = (at2 LB i).b + v - 1 := by
        have := hnr; unfold near at this
        rw [IntWalk.i64_in ((at2 LB i).b + v) (by omega), IntWalk.i64_in _ (by omega)]
      rw [hz]
      have hst := HP9.out.stored (i * 2 + 1) (.int .i64 ((at2 LB i).b + v - 1))
      obtain ⟨w10, hw10⟩ : ∃ w10, w10 = w9.setCell ⟨gx, i * 2 + 1, none⟩ (.int .i64 ((at2 LB i).b + v - 1)) := ⟨_, rfl⟩
      rw [← hw10] at hst ⊢
      have SC := hid (T9.out.other hst.2 HNE.out.1 HNE.out.2.2.2.1 HNE.out.2.2.1 HNE.out.2.2.2.2.2.2.2.1)
      obtain ⟨LC, hLC⟩ : ∃ l, l = LB.set i ⟨(at2 LB i).a, (at2 LB i).b + v - 1⟩ := ⟨_, rfl⟩
      have HOC := hid (show w10.ownsRow w5.heap.size 35 2 (.slice (some ⟨gx, 0, none⟩) n d) n (LC.flatMap T2.v) by rw [hLC, ← flat_set1 _ hLi]; exact hst.1)
      have HOCL := hid (show LC.length = n by rw [hLC, List.length_set]; exact HOBL.out)
      have HOCN := hid (show ∀ j, j < n → near (16 - 2 * (k : Int) + 2) (at2 LC j) from fun j hj => by
        rw [hLC, at2_set hLi]
        have hx := HOBN.out j hj
        unfold near at hx hnr ⊢
        split
        · rename_i e; subst e; dsimp only; omega
        · omega)
      have XBC := hid (HB9.out.grown hst.2 (by intro e; injection e with e; exact HNE.out.2.2.2.2.2.2.1 e))
      clear hst hw10 hz T9 HP9 HB9 f0 o0 hLC hnr v0 v1 HOB HOBL HOBN hxb hLi
      have hxb := XBC.out.1
      go_wp2_with fail
      rename World => w7c
      have hkk : ((k : Int) - 1) = ((k - 1 : Nat) : Int) := by omega
      cases hr2 : roomS LC
      · refine (gives_b hr2 (sRoomOk_any (some ⟨gx, 0, none⟩) n d LC _ ((Row.of_own HOC.out).ext (by repeat (first | exact Ext.refl _ | refine Ext.alloc ?_ _ | assumption | refine Ext.over ?_ _ | refine Ext.drew ?_ | refine Ext.drewN ?_ _))) HOCL.out (by omega))).mono ?_
        rintro _ w12 ⟨rfl, e12⟩
        have SD := hid (SC.out.ext e12)
        clear e12
        go_wp2_with fail
        go_roundw
        case rel => exact ⟨k - 1, A, c, L, by omega, by first | go_num | (rw [hkk]), HLL.out, HRM.out.mono (by omega), SD.out.ext (by repeat (first | exact Ext.refl _ | refine Ext.alloc ?_ _ | assumption | refine Ext.over ?_ _ | refine Ext.drew ?_ | refine Ext.drewN ?_ _))⟩
        case measure => simp [intOf]; omega
      · have HR2 := hid (show RoomN (16 - 2 * ((k - 1 : Nat) : Int)) LC from ⟨hr2, fun j hj => by have := HOCN.out j (by rw [← HOCL.out]; exact hj); unfold near at this ⊢; omega⟩)
        refine (gives_b hr2 (sRoomOk_any (some ⟨gx, 0, none⟩) n d LC _ ((Row.of_own HOC.out).ext (by repeat (first | exact Ext.refl _ | refine Ext.alloc ?_ _ | assumption | refine Ext.over ?_ _ | refine Ext.drew ?_ | refine Ext.drewN ?_ _))) HOCL.out (by omega))).mono ?_
        rintro _ w12 ⟨rfl, e12⟩
        have SD := hid (SC.out.ext e12)
        have XBD := hid (XBC.out.ext e12)
        have HOD := hid (own_ext HOC.out e12)
        have hxb := XBD.out.1
        have hxr := SD.out.xr.1
        have hfr := SD.out.xr.2
        clear e12 SC XBC HOC
        go_wp2_with fail
        have SE := hid (SD.out.swap (own_base HOD.out SZ5.out) (fun j hj => by
          have hj' : gx = j := by injection hj
          rw [← hj']; exact ⟨HNE.out.2.2.2.1, HNE.out.2.2.1⟩))
        go_roundw
        case rel => exact ⟨k - 1, some ⟨gx, 0, none⟩, d, LC, by omega, by first | go_num | (rw [hkk]), HOCL.out, HR2.out, SE.out.ext (by repeat (first | exact Ext.refl _ | refine Ext.alloc ?_ _ | assumption | refine Ext.over ?_ _ | refine Ext.drew ?_ | refine Ext.drewN ?_ _))⟩
        case measure => simp [intOf]; omega
    · obtain rfl : k = 0 := by omega
      have HRM2 := hid (show RoomN 16 L from HRM.out.mono (by omega))
      have hn10 : n ≤ 10 := hb.2
      have hn3 : 3 ≤ n := hb.1
      go_wp2_with fail
      obtain ⟨w5, hw5⟩ : ∃ w5, w5 = wr.alloc (.cells #[.slice none 0 0] 33) := ⟨_, rfl⟩
      have e5 : Ext wr w5 := by rw [hw5]; repeat (first | exact Ext.refl _ | refine Ext.alloc ?_ _ | assumption | refine Ext.over ?_ _ | refine Ext.drew ?_ | refine Ext.drewN ?_ _)
      have S5 := hid (S.out.ext e5)
      have HB5 := hid (show Box w5 wr.heap.size (.slice none 0 0) from ⟨by rw [hw5]; go_simp, by rw [hw5]; go_simp⟩)
      have h1 := S.out.xr.lt
      have h2 := S.out.x2.lt
      have h3 := S.out.own.lt
      have h4 := S.out.grow.size
      have h5 := S.out.low
      have HNE := hid (show w.heap.size ≤ wr.heap.size ∧ wr.heap.size ≠ br ∧ wr.heap.size ≠ w.heap.size ∧ (Value.slice A n c).ownBlock ≠ some wr.heap.size ∧ wr.heap.size ≠ g from ⟨h4, by omega, by omega, fun e => by have := h3 _ e; omega, by omega⟩)
      rw [← hw5]
      clear hw5 e5 S h1 h2 h3 h4 h5 HRM
      generalize wr.heap.size = b8 at HB5 HNE ⊢
      refine (l01Below_any g 4 w5 S5.out.cur (by omega)).mono ?_
      rintro _ w6 ⟨t, rfl, t0, t1, hd⟩
      have S6 := hid (S5.out.drawn hd)
      have HB6 := hid (HB5.out.grown hd.1 (by intro e; injection e with e; exact HNE.out.2.2.2.2 e.symm))
      clear hd S5 HB5
      go_wp2_with fail
      refine (l01Below_any g n w6 S6.out.cur (by omega)).mono ?_
      rintro _ w7 ⟨f, rfl, v0, v1, hd⟩
      obtain ⟨f, rfl⟩ : ∃ q : Nat, f = q := ⟨f.toNat, by omega⟩
      have hfn : f < n := by omega
      have S7 := hid (S6.out.drawn hd)
      have HB7 := hid (HB6.out.grown hd.1 (by intro e; injection e with e; exact HNE.out.2.2.2.2 e.symm))
      clear hd S6 HB6 v0 v1
      go_wp2_with fail
      refine (l01Below_any g 5 w7 S7.out.cur (by omega)).mono ?_
      rintro _ w8 ⟨u, rfl, v0, v1, hd⟩
      have S8 := hid (S7.out.drawn hd)
      have HB8 := hid (HB7.out.grown hd.1 (by intro e; injection e with e; exact HNE.out.2.2.2.2 e.symm))
      clear hd S7 HB7
      obtain ⟨dx, hdx⟩ : ∃ dx, dx = u - 2 := ⟨_, rfl⟩
      have hwd : wrap64 (u - 2) = dx := by rw [hdx]; exact IntWalk.wrap64_in _ (by omega)
      have hdx2 : -2 ≤ dx ∧ dx ≤ 2 := by omega
      have hb8 := HB8.out.lt
      have HSP := hid (room_spun (f := f) (t := t) HRM2.out.1 (by rw [HLL.out]; exact hfn) hdx2 (fun k hk => HRM2.out.2 k hk))
      go_wp2_with fail
      rw [show u - 2 = dx from hdx.symm]
      clear hwd v0 v1 hdx
      go_loopw [12] (fun kv wz => ∃ (k : Nat) (B : Option Addr) (d : Nat), k ≤ n ∧ kv = .int .i64 ↑k ∧ w8.grownBy wz (some b8) ∧ Box wz b8 (.slice B k d) ∧ wz.ownsRow w8.heap.size 35 2 (.slice B k d) k (((spun L f t dx).take k).flatMap T2.v)) (fun kv _ => n - (intOf kv).toNat)
      case atStart => exact ⟨0, none, 0, by omega, rfl, World.grownBy.refl _ _, HB8.out, World.ownsRow_nil _ _ _ _⟩
      case round =>
        rename World => wz
        obtain ⟨k, B, d, hk, rfl, hg, hbx, hown⟩ := hrel
        have HG := hid hg
        have HBX := hid hbx
        have HO := hid hown
        have HA := hid (S8.out.own.kept hg (.inr fun e => HNE.out.2.2.2.1 e))
        have HXR := hid (S8.out.xr.grown hg (by intro e; injection e with e; exact HNE.out.2.1 e))
        have hxr := HXR.out.1
        have hb8z := HBX.out.lt
        clear hg hbx hown
        by_cases hlt : k < n
        · have hkt : (k : Int) < n := by omega
          obtain ⟨m, hm⟩ : ∃ m, m = (f + k) % n := ⟨_, rfl⟩
          have hmn : m < n := by rw [hm]; exact Nat.mod_lt _ (by omega)
          have hmt : (m : Int) < n := by omega
          have hwf : IntKind.i64.wrap ((f : Int) + k) = (f : Int) + k := IntWalk.i64_in _ (by omega)
          have hmod : ((f : Int) + k).tmod n = (m : Int) := by rw [Int.tmod_eq_emod_of_nonneg (by omega), hm, Int.natCast_emod]; rfl
          have hmod2 : ((f : Int) + k) % n = (m : Int) := by rw [hm, Int.natCast_emod]; rfl
          have hwm : IntKind.i64.wrap (m : Int) = (m : Int) := IntWalk.i64_in _ (by omega)
          have hnz : ¬ n = 0 := by omega
          have hnz2 : ¬ (n : Int) = 0 := by omega
          have hn0 : ((n : Int) == 0) = false := by rw [beq_eq_false_iff_ne]; omega
          obtain ⟨bk, off, hB, hc⟩ := (Row.of_own HA.out).t2 (i := m) (by rw [HLL.out]; exact hmn)
          obtain ⟨c1, c2⟩ := hc m (by rw [HLL.out]; exact hmn)
          have HSA := hid (show at2 (spun L f t dx) k = moveT t dx (at2 L m) by rw [spun_at (by rw [HLL.out]; exact hlt), HLL.out, hm]; rfl)
          have hnr := HRM2.out.2 m (by rw [HLL.out]; exact hmn)
          have hTK := hid (show (spun L f t dx).take (k + 1) = (spun L f t dx).take k ++ [at2 (spun L f t dx) k] by rw [List.take_add_one, List.getElem?_eq_getElem (by rw [spun_len, HLL.out]; exact hlt), Option.toList_some, at2_eq _ _ (by rw [spun_len, HLL.out]; exact hlt)])
          subst hB
          clear hc hm
          rw [HSA.out] at hTK
          generalize at2 L m = p at c1 c2 hTK hnr
          go_wp2_with fail
          refine wp_region_x [.q 0, .q 1, .q 2, .q 3, .q 4, .q 5, .q 6, .q 7, .q 8, .u 9, .u 10] (by kernel_rfl) (by kernel_rfl) (fun w9 e9 => ?_)
          have e9' : Ext wz w9 := Ext.trans (by repeat (first | exact Ext.refl _ | refine Ext.alloc ?_ _ | assumption | refine Ext.over ?_ _ | refine Ext.drew ?_ | refine Ext.drewN ?_ _)) e9
          have HG9 := hid (grown_then HG.out (ext_grown e9' (some b8)) (.inl rfl))
          have HB9 := hid (HBX.out.ext e9')
          have HO9 := hid (own_ext HO.out e9')
          have c1 := old_cell e9' c1
          have c2 := old_cell e9' c2
          have hxr := old_cell e9' hxr
          clear e9 e9' HG HBX HO HA HXR
          simp only [pick, List.getElem?_cons_succ, List.getElem?_cons_zero]
          repeat (refine wpZ_q (fun K hK => ?_); go_simp; refine hK _ ?_; clear hK K)
          refine wpZ_u ?_
          refine stepH_of (fun K hK => ?_)
          go_simp
          refine hK _ _ (Below.alloc (Below.refl _ _) (Nat.le_refl _) _) ?_; clear hK K
          refine wpZ_u ?_
          refine stepH_of (fun K hK => ?_)
          go_simp
          refine hK _ _ (below_again (Nat.le_refl _) _ _) ?_; clear hK K
          refine wpZ_nil ?_
          have hsz9 := HO9.out.lt
          have hb9 := HB9.out.lt
          obtain ⟨wp, hwp⟩ : ∃ wp, wp = w9.alloc (.cells #[.int .i64 p.a, .int .i64 p.b] 35) := ⟨_, rfl⟩
          have ep : Ext w9 wp := by rw [hwp]; repeat (first | exact Ext.refl _ | refine Ext.alloc ?_ _ | assumption | refine Ext.over ?_ _ | refine Ext.drew ?_ | refine Ext.drewN ?_ _)
          have p0 : wp.cell? ⟨w9.heap.size, 0, none⟩ = some (.int .i64 p.a) := by rw [hwp]; go_simp
          have p1 : wp.cell? ⟨w9.heap.size, 1, none⟩ = some (.int .i64 p.b) := by rw [hwp]; go_simp
          have q0 : wp.frozen? ⟨w9.heap.size, 0, none⟩ = false := by rw [hwp]; go_simp
          have q1 : wp.frozen? ⟨w9.heap.size, 1, none⟩ = false := by rw [hwp]; go_simp
          have HGP := hid (grown_then HG9.out (ext_grown ep (some b8)) (.inl rfl))
          have HBP := hid (HB9.out.ext ep)
          have HOP := hid (own_ext HO9.out ep)
          have HNP := hid (show w8.heap.size ≤ w9.heap.size ∧ b8 ≠ w9.heap.size ∧ (Value.slice B k d).ownBlock ≠ some w9.heap.size from ⟨HG9.out.size, by omega, fun e => by have := hsz9 _ e; omega⟩)
          rw [← hwp]
          generalize w9.heap.size = bp at *
          clear hwp ep HG9 HB9 HO9 hsz9 hb9 c1 c2 hxr
          have hxb := HBP.out.1
          have hfb := HBP.out.2
          have HPZ := hid (show Pz w8 wp b8 bp B k d ((spun L f t dx).take k) from ⟨HGP.out, HBP.out, HOP.out, HNP.out.1, hb8, HNP.out.2.2⟩)
          have hne8 : ¬ b8 = bp := HNP.out.2.1
          have hne9 : ¬ bp = b8 := fun e => hne8 e.symm
          have hk9 : k ≤ 10 := by omega
          unfold near at hnr
          by_cases ht1 : t = 1
          · subst ht1
            have HQ := hid (((HPZ.out.put 0 (.int .i64 (-p.b))).put 1 (.int .i64 (p.a))).put 0 (.int .i64 (-p.b + dx)))
            have hmv : moveT 1 dx p = ⟨-p.b + dx, p.a⟩ := by unfold moveT; rw [if_pos rfl]
            rw [hmv] at hTK
            have HTK := hid hTK
            clear hTK hmv HPZ
            go_wp2_with (at_builtin; refine wpList_pushG rfl (.tmp 111) (.tmp 113) 31 rfl 35 Try.underlying31 info_PointR rfl (by decide) w8.heap.size B k d (((spun L f 1 dx).take k).flatMap T2.v) rfl (((wp.setCell ⟨bp, 0, none⟩ (.int .i64 (-p.b))).setCell ⟨bp, 1, none⟩ (.int .i64 (p.a))).setCell ⟨bp, 0, none⟩ (.int .i64 (-p.b + dx))) HQ.out.own (by repeat (first | exact Ext.refl _ | refine Ext.alloc ?_ _ | assumption | refine Ext.over ?_ _ | refine Ext.drew ?_ | refine Ext.drewN ?_ _)) HQ.out.grow.size _ 1 1 [.int .i64 (-p.b + dx), .int .i64 (p.a)] rfl rfl (lit_cells _ _ (by first | (simp; done) | simp [ovr_size]) _ _) (by intro z hz; simp at hz; rcases hz with rfl | rfl <;> rfl) (by omega) (by decide) ?_)
            intro B2 d2 w10 hown hgr
            have HF := hid (HQ.out.push (B' := B2) (d' := d2) (M' := (spun L f 1 dx).take (k + 1)) (by rw [HTK.out, List.flatMap_append]; exact hown) hgr)
            have hxb := HF.out.1.1
            have hfb := HF.out.1.2
            clear hown hgr HQ
            go_wp2_with fail
            go_roundw
            case rel => exact ⟨k + 1, B2, d2, by omega, by go_num, HF.out.2.1, HF.out.2.2.1, HF.out.2.2.2⟩
            case measure => simp [intOf]; omega
          by_cases ht2 : t = 2
          · subst ht2
            have HQ := hid (((HPZ.out.put 0 (.int .i64 (-p.a))).put 1 (.int .i64 (-p.b))).put 0 (.int .i64 (-p.a + dx)))
            have hmv : moveT 2 dx p = ⟨-p.a + dx, -p.b⟩ := by unfold moveT; rw [if_neg (by decide), if_pos rfl]
            rw [hmv] at hTK
            have HTK := hid hTK
            clear hTK hmv HPZ
            go_wp2_with (at_builtin; refine wpList_pushG rfl (.tmp 111) (.tmp 113) 31 rfl 35 Try.underlying31 info_PointR rfl (by decide) w8.heap.size B k d (((spun L f 2 dx).take k).flatMap T2.v) rfl (((wp.setCell ⟨bp, 0, none⟩ (.int .i64 (-p.a))).setCell ⟨bp, 1, none⟩ (.int .i64 (-p.b))).setCell ⟨bp, 0, none⟩ (.int .i64 (-p.a + dx))) HQ.out.own (by repeat (first | exact Ext.refl _ | refine Ext.alloc ?_ _ | assumption | refine Ext.over ?_ _ | refine Ext.drew ?_ | refine Ext.drewN ?_ _)) HQ.out.grow.size _ 1 1 [.int .i64 (-p.a + dx), .int .i64 (-p.b)] rfl rfl (lit_cells _ _ (by first | (simp; done) | simp [ovr_size]) _ _) (by intro z hz; simp at hz; rcases hz with rfl | rfl <;> rfl) (by omega) (by decide) ?_)
            intro B2 d2 w10 hown hgr
            have HF := hid (HQ.out.push (B' := B2) (d' := d2) (M' := (spun L f 2 dx).take (k + 1)) (by rw [HTK.out, List.flatMap_append]; exact hown) hgr)
            have hxb := HF.out.1.1
            have hfb := HF.out.1.2
            clear hown hgr HQ
            go_wp2_with fail
            go_roundw
            case rel => exact ⟨k + 1, B2, d2, by omega, by go_num, HF.out.2.1, HF.out.2.2.1, HF.out.2.2.2⟩
            case measure => simp [intOf]; omega
          · have ht3 : (t == 2) = false := beq_eq_false_iff_ne.2 ht2
            have ht4 : (t == 1) = false := beq_eq_false_iff_ne.2 ht1
            have HQ := hid (HPZ.out.put 0 (.int .i64 (p.a + dx)))
            have hmv : moveT t dx p = ⟨p.a + dx, p.b⟩ := by unfold moveT; rw [if_neg ht1, if_neg ht2]
            rw [hmv] at hTK
            have HTK := hid hTK
            clear hTK hmv HPZ
            go_wp2_with (at_builtin; refine wpList_pushG rfl (.tmp 111) (.tmp 113) 31 rfl 35 Try.underlying31 info_PointR rfl (by decide) w8.heap.size B k d (((spun L f t dx).take k).flatMap T2.v) rfl (wp.setCell ⟨bp, 0, none⟩ (.int .i64 (p.a + dx))) HQ.out.own (by repeat (first | exact Ext.refl _ | refine Ext.alloc ?_ _ | assumption | refine Ext.over ?_ _ | refine Ext.drew ?_ | refine Ext.drewN ?_ _)) HQ.out.grow.size _ 1 1 [.int .i64 (p.a + dx), .int .i64 (p.b)] rfl rfl (lit_cells _ _ (by first | (simp; done) | simp [ovr_size]) _ _) (by intro z hz; simp at hz; rcases hz with rfl | rfl <;> rfl) (by omega) (by decide) ?_)
            intro B2 d2 w10 hown hgr
            have HF := hid (HQ.out.push (B' := B2) (d' := d2) (M' := (spun L f t dx).take (k + 1)) (by rw [HTK.out, List.flatMap_append]; exact hown) hgr)
            have hxb := HF.out.1.1
            have hfb := HF.out.1.2
            clear hown hgr HQ
            go_wp2_with fail
            go_roundw
            case rel => exact ⟨k + 1, B2, d2, by omega, by go_num, HF.out.2.1, HF.out.2.2.1, HF.out.2.2.2⟩
            case measure => simp [intOf]; omega
        · obtain rfl : k = n := by omega
          have hkt : ¬ (k : Int) < k := by omega
          have S9 := hid HG.out
          have h2r := HNE.out
          have hx2 := S8.out.x2.grown HG.out (by intro e; injection e with e; exact h2r.2.2.1 e)
          have hx2c := hx2.1
          have hx2f := hx2.2
          have hxb := HBX.out.1
          have h1 := S8.out.low
          have HLN := hid (show (spun L f t dx).take k = spun L f t dx by rw [List.take_of_length_le (by rw [spun_len, HLL.out]; exact Nat.le_refl _)])
          have HGG := hid (grown_then S8.out.grow HG.out (.inr fun j hj => by injection hj with hj; have := h2r.1; omega))
          have HCU := hid (S8.out.cur.kept HG.out (fun j hj => by injection hj with hj; have := h2r.1; omega))
          have hs8 := S8.out.grow.size
          clear h2r
          go_wp2_with fail
          refine bodyPost_ret (v := .agg #[.slice B k d]) (by first | (simp [results, Try.results43, go_sem, hx2c]; done) | (unfold results; rw [Try.results43]; go_simp)) rfl ?_
          have hg2 : wz.grownBy (wz.setCell ⟨w.heap.size, 0, none⟩ (.slice B k d)) (some w.heap.size) := only_setCell (g := w.heap.size) (p := ⟨w.heap.size, 0, none⟩) (World.grownBy.refl _ _) (.inl rfl) _
          refine ⟨B, k, d, rfl, spun L f t dx, by rw [spun_len]; exact HLL.out, ⟨HSP.out.1, HSP.out.2⟩, ?_, grown_then HGG.out hg2 (.inr fun j hj => by injection hj with hj; omega), HCU.out.kept hg2 (fun j hj => by injection hj with hj; omega)⟩
          have := HO.out
          rw [HLN.out] at this
          have h6 := S8.out.x2.lt
          exact own_base (this.kept hg2 (.inr fun e => by have := (HO.out.lt _ e).1; omega)) hs8
end Go.Proofs.Ytkifapcegiajiaa
/-
  As XHer4, with a tree for a script: where two operations may come up, both ways are walked to the end. Condition: a Bool on the statement's text, by the kernel.
-/
namespace Go.Proofs.Ytkifapcegiajiaa
open Go.RowKit
set_option linter.unusedVariables false

section
variable {P : Program} {ops : Array Oper} {md : Region.Mode} {R : World → World → Prop}

inductive Tr
  | nil
  | q (i : Nat) (r : Tr)
  | u (i : Nat) (r : Tr)
  | b (i j : Nat) (r s : Tr)
inductive TrO
  | nil
  | q (o : Oper) (r : TrO)
  | u (o : Oper) (r : TrO)
  | b (o o' : Oper) (r s : TrO)
def pickT (l : List Oper) : Tr → TrO
  | .nil => .nil
  | .q i r => match l[i]? with
    | some o => .q o (pickT l r)
    | none => .nil
  | .u i r => match l[i]? with
    | some o => .u o (pickT l r)
    | none => .nil
  | .b i j r s => match l[i]?, l[j]? with
    | some o, some o' => .b o o' (pickT l r) (pickT l s)
    | _, _ => .nil
def cntT : Tr → Nat
  | .nil => 0
  | .q _ r => cntT r + 1
  | .u _ r => cntT r + 1
  | .b _ _ r _ => cntT r + 1
def okT (md : Region.Mode) (ops : Array Oper) : Tr → Array Bool → Bool
  | .nil, listed => (Region.ready md ops listed).isEmpty
  | .q i r, listed => (Region.ready md ops listed).contains i && Region.free md ops listed i && okT md ops r (listed.setIfInBounds i true)
  | .u i r, listed => decide (Region.ready md ops listed = [i]) && okT md ops r (listed.setIfInBounds i true)
  | .b i j r s, listed => decide (Region.ready md ops listed = [i, j]) && (decide (cntT s = cntT r) && (okT md ops r (listed.setIfInBounds i true) && okT md ops s (listed.setIfInBounds j true)))
def wpW (P : Program) (ops : Array Oper) (R : World → World → Prop) (w1 : World) (Q : Act → World → Prop) : TrO → Act → World → Prop
  | .nil, a, w => Q a w
  | .q o r, a, w => if Region.wanted o (yielded ops a.tmps) then qX P o a w1 (fun a' => wpW P ops R w1 Q r a' w) else wpW P ops R w1 Q r (a.put o.dst undef) w
  | .u o r, a, w => stepH P ops R o (wpW P ops R w1 Q r) a w
  | .b o o' r s, a, w => stepH P ops R o (wpW P ops R w1 Q r) a w ∧ stepH P ops R o' (wpW P ops R w1 Q s) a w
theorem wpW_script {l : List Oper} {w1 : World} {Q : Act → World → Prop} (hs : Region.noSelect l.toArray = true) : ∀ (sc : Tr) (listed : Array Bool) (a : Act) (w : World), Below w1.heap.size w1 w →
    okT md l.toArray sc listed = true → wpW P l.toArray (Below w1.heap.size) w1 Q (pickT l sc) a w → wpX P md l.toArray (Below w1.heap.size) Q (cntT sc) listed a w
  | .nil, listed, a, w, hb, hB, h => ⟨by simpa [okT] using hB, h⟩
  | .q i r, listed, a, w, hb, hB, h => by
    simp only [okT, Bool.and_eq_true] at hB
    obtain ⟨⟨hr, hf⟩, hB'⟩ := hB
    have hri : i ∈ Region.ready md l.toArray listed := by simpa using hr
    obtain ⟨_, o, ho, _⟩ := mem_ready.1 hri
    have hol : l[i]? = some o := by simpa using ho
    simp only [pickT, hol] at h
    unfold wpW at h
    show wpX P md l.toArray (Below w1.heap.size) Q (cntT r + 1) listed a w
    by_cases hw : Region.wanted o (yielded l.toArray a.tmps) = true
    · rw [if_pos hw] at h
      obtain ⟨v, hv, hK⟩ := h
      exact wpX_first (below_steady _) ho (Region.noSelect_spec hs) (cntT r) listed a w (Region.free_spec ho hf) hri (.inl ⟨hw, fun w0 h0 => hv w0 (Ext.ex (hb.trans h0))⟩) (wpW_script hs r _ _ w hb hB' hK)
    · rw [if_neg hw] at h
      exact wpX_first (below_steady _) ho (Region.noSelect_spec hs) (cntT r) listed a w (Region.free_spec ho hf) hri (.inr ⟨by simpa using hw, rfl⟩) (wpW_script hs r _ _ w hb hB' h)
  | .u i r, listed, a, w, hb, hB, h => by
    simp only [okT, Bool.and_eq_true, decide_eq_true_eq] at hB
    have hri : i ∈ Region.ready md l.toArray listed := by rw [hB.1]; simp
    obtain ⟨_, o, ho, _⟩ := mem_ready.1 hri
    have hol : l[i]? = some o := by simpa using ho
    simp only [pickT, hol] at h
    unfold wpW at h
    show wpX P md l.toArray (Below w1.heap.size) Q (cntT r + 1) listed a w
    refine And.intro (fun h0 => by rw [hB.1] at h0; cases h0) (fun j hj => ?_)
    rw [hB.1] at hj
    obtain rfl : j = i := by simpa using hj
    exact stepH_at (below_steady _) ho (fun a'' w'' hR hk => wpW_script hs r _ _ _ (hb.trans hR) hB.2 hk) h
  | .b i j r s, listed, a, w, hb, hB, h => by
    simp only [okT, Bool.and_eq_true, decide_eq_true_eq] at hB
    obtain ⟨h1, h2, h3, h4⟩ := hB
    have hri : i ∈ Region.ready md l.toArray listed := by rw [h1]; simp
    have hrj : j ∈ Region.ready md l.toArray listed := by rw [h1]; simp
    obtain ⟨_, o, ho, _⟩ := mem_ready.1 hri
    obtain ⟨_, o', ho', _⟩ := mem_ready.1 hrj
    have hol : l[i]? = some o := by simpa using ho
    have hol' : l[j]? = some o' := by simpa using ho'
    simp only [pickT, hol, hol'] at h
    unfold wpW at h
    show wpX P md l.toArray (Below w1.heap.size) Q (cntT r + 1) listed a w
    refine And.intro (fun h0 => by rw [h1] at h0; cases h0) (fun q hq => ?_)
    rw [h1] at hq
    by_cases hqi : q = i
    · subst hqi
      exact stepH_at (below_steady _) ho (fun a'' w'' hR hk => wpW_script hs r _ _ _ (hb.trans hR) h3 hk) h.1
    · obtain rfl : q = j := by
        rcases (show q = i ∨ q = j by simpa using hq) with h5 | h5
        · exact absurd h5 hqi
        · exact h5
      refine stepH_at (below_steady _) ho' (fun a'' w'' hR hk => ?_) h.2
      have := wpW_script hs s _ _ _ (hb.trans hR) h4 hk
      rw [h2] at this
      exact this
theorem wp_region_t {id : Nat} {Q : Exit → Act → World → Prop} {a : Act} {w : World} {l : List Oper} (sc : Tr) (hm : P.follows .mixedOrders = true)
    (hB : (Region.noSelect l.toArray && decide (cntT sc = l.length) && okT .any l.toArray sc (Array.replicate l.length false)) = true)
    (h : ∀ w1, Ext w w1 → wpW P l.toArray (Below w1.heap.size) w1 (fun a'' w'' => Q .normal a'' w'') (pickT l sc) a w1) : (Code.region id l.toArray true).wp P Q a w := by
  simp only [Bool.and_eq_true, decide_eq_true_eq] at hB
  obtain ⟨⟨h1, h2⟩, h3⟩ := hB
  refine wp_region_any hm ?_
  have h4 := wpW_script (md := .any) (w1 := w.drew) h1 sc (Array.replicate l.length false) a w.drew (Below.refl _ _) h3 (h w.drew (Below.drew (Below.refl _ _)))
  rw [h2] at h4
  simpa using wpAny_of_X (fun a w h => h) _ _ _ _ h4
theorem wpW_nil {w1 : World} {Q : Act → World → Prop} {a : Act} {w : World} (h : Q a w) : wpW P ops R w1 Q .nil a w := h
theorem wpW_q {w1 : World} {Q : Act → World → Prop} {a : Act} {w : World} {o : Oper} {r : TrO}
    (h : ∀ K : Act → Prop, (∀ a, wpW P ops R w1 Q r a w → K a) → if Region.wanted o (yielded ops a.tmps) then qX P o a w1 K else K (a.put o.dst undef)) : wpW P ops R w1 Q (.q o r) a w :=
  h _ (fun _ h => h)
theorem wpW_u {w1 : World} {Q : Act → World → Prop} {a : Act} {w : World} {o : Oper} {r : TrO} (h : stepH P ops R o (wpW P ops R w1 Q r) a w) : wpW P ops R w1 Q (.u o r) a w := h
theorem wpW_b {w1 : World} {Q : Act → World → Prop} {a : Act} {w : World} {o o' : Oper} {r s : TrO} (h : stepH P ops R o (wpW P ops R w1 Q r) a w) (h' : stepH P ops R o' (wpW P ops R w1 Q s) a w) : wpW P ops R w1 Q (.b o o' r s) a w := ⟨h, h'⟩
end
end Go.Proofs.Ytkifapcegiajiaa
/-
  As XHer6 (the last operation may write what others read, any steady relation), with XHer7's tree for a script. Condition: a Bool on the statement's text, by the kernel.
-/
namespace Go.Proofs.Ytkifapcegiajiaa
open Go.RowKit
set_option linter.unusedVariables false

section
variable {P : Program} {ops : Array Oper} {md : Region.Mode} {R : World → World → Prop} {z : Nat}
def wpV (P : Program) (ops : Array Oper) (R : World → World → Prop) (w1 : World) (oz : Oper) (Q : Act → World → Prop) : TrO → Act → World → Prop
  | .nil, a, w => stepL P ops oz Q a w
  | .q o r, a, w => if Region.wanted o (yielded ops a.tmps) then qR P R o a w1 (fun a' => wpV P ops R w1 oz Q r a' w) else wpV P ops R w1 oz Q r (a.put o.dst undef) w
  | .u o r, a, w => stepH P ops R o (wpV P ops R w1 oz Q r) a w
  | .b o o' r s, a, w => stepH P ops R o (wpV P ops R w1 oz Q r) a w ∧ stepH P ops R o' (wpV P ops R w1 oz Q s) a w
def okV (md : Region.Mode) (ops : Array Oper) (z : Nat) : Tr → Array Bool → Bool
  | .nil, listed => decide (Region.ready md ops listed = [z]) && (Region.ready md ops (listed.setIfInBounds z true)).isEmpty
  | .q i r, listed => (Region.ready md ops listed).contains i && Region.free md ops listed i && waits md ops z i && okV md ops z r (listed.setIfInBounds i true)
  | .u i r, listed => decide (Region.ready md ops listed = [i]) && okV md ops z r (listed.setIfInBounds i true)
  | .b i j r s, listed => decide (Region.ready md ops listed = [i, j]) && (decide (cntT s = cntT r) && (okV md ops z r (listed.setIfInBounds i true) && okV md ops z s (listed.setIfInBounds j true)))
theorem wpV_script (hR : Steady R) {l : List Oper} {w1 : World} {oz : Oper} {Q : Act → World → Prop} (hs : Region.noSelect l.toArray = true) (hz : l[z]? = some oz) : ∀ (sc : Tr) (listed : Array Bool) (a : Act) (w : World), R w1 w →
    okV md l.toArray z sc listed = true → wpV P l.toArray R w1 oz Q (pickT l sc) a w → wpL P md l.toArray R z Q (cntT sc + 1) listed a w
  | .nil, listed, a, w, hb, hB, h => by
    simp only [okV, Bool.and_eq_true, decide_eq_true_eq] at hB
    refine ⟨fun h0 => (by rw [hB.1] at h0; cases h0), fun j hj => ?_⟩
    rw [hB.1] at hj
    obtain rfl : j = z := by simpa using hj
    have hK : ∀ (a'' : Act) (w'' : World), Q a'' w'' → (j = j ∨ R w w'') ∧ wpL P md l.toArray R j Q 0 (listed.setIfInBounds j true) a'' w'' := fun a'' w'' hq => ⟨.inl rfl, by simpa using hB.2, hq⟩
    have h' : stepL P l.toArray oz Q a w := h
    unfold stepL at h'
    unfold herAt
    have hz' : l.toArray[j]? = some oz := by simpa using hz
    rw [hz']; dsimp only
    split
    · rename_i hw
      rw [if_pos hw] at h'
      exact herOp_mono (fun a w h => hK _ _ h) h'
    · rename_i hw
      rw [if_neg hw] at h'
      exact hK _ _ h'
  | .q i r, listed, a, w, hb, hB, h => by
    simp only [okV, Bool.and_eq_true] at hB
    obtain ⟨⟨⟨hr, hf⟩, hwt⟩, hB'⟩ := hB
    have hri : i ∈ Region.ready md l.toArray listed := by simpa using hr
    obtain ⟨_, o, ho, _⟩ := mem_ready.1 hri
    have hol : l[i]? = some o := by simpa using ho
    simp only [pickT, hol] at h
    unfold wpV at h
    show wpL P md l.toArray R z Q (cntT r + 1 + 1) listed a w
    by_cases hw : Region.wanted o (yielded l.toArray a.tmps) = true
    · rw [if_pos hw] at h
      obtain ⟨v, hv, hK⟩ := h
      exact wpL_first (hR) ho (Region.noSelect_spec hs) hwt (cntT r + 1) listed a w (Region.free_spec ho hf) hri (.inl ⟨hw, fun w0 h0 => hv w0 (hR.2 _ _ _ hb h0)⟩) (wpV_script hR hs hz r _ _ w hb hB' hK)
    · rw [if_neg hw] at h
      exact wpL_first (hR) ho (Region.noSelect_spec hs) hwt (cntT r + 1) listed a w (Region.free_spec ho hf) hri (.inr ⟨by simpa using hw, rfl⟩) (wpV_script hR hs hz r _ _ w hb hB' h)
  | .u i r, listed, a, w, hb, hB, h => by
    simp only [okV, Bool.and_eq_true, decide_eq_true_eq] at hB
    have hri : i ∈ Region.ready md l.toArray listed := by rw [hB.1]; simp
    obtain ⟨_, o, ho, _⟩ := mem_ready.1 hri
    have hol : l[i]? = some o := by simpa using ho
    simp only [pickT, hol] at h
    unfold wpV at h
    show wpL P md l.toArray R z Q (cntT r + 1 + 1) listed a w
    refine And.intro (fun h0 => by rw [hB.1] at h0; cases h0) (fun j hj => ?_)
    rw [hB.1] at hj
    obtain rfl : j = i := by simpa using hj
    exact stepH_atL (hR) ho (fun a'' w'' hr1 hk => wpV_script hR hs hz r _ _ _ (hR.2 _ _ _ hb hr1) hB.2 hk) h
  | .b i j r s, listed, a, w, hb, hB, h => by
    simp only [okV, Bool.and_eq_true, decide_eq_true_eq] at hB
    obtain ⟨h1, h2, h3, h4⟩ := hB
    have hri : i ∈ Region.ready md l.toArray listed := by rw [h1]; simp
    have hrj : j ∈ Region.ready md l.toArray listed := by rw [h1]; simp
    obtain ⟨_, o, ho, _⟩ := mem_ready.1 hri
    obtain ⟨_, o', ho', _⟩ := mem_ready.1 hrj
    have hol : l[i]? = some o := by simpa using ho
    have hol' : l[j]? = some o' := by simpa using ho'
    simp only [pickT, hol, hol'] at h
    unfold wpV at h
    show wpL P md l.toArray R z Q (cntT r + 1 + 1) listed a w
    refine And.intro (fun h0 => by rw [h1] at h0; cases h0) (fun q hq => ?_)
    rw [h1] at hq
    by_cases hqi : q = i
    · subst hqi
      exact stepH_atL (hR) ho (fun a'' w'' hr1 hk => wpV_script hR hs hz r _ _ _ (hR.2 _ _ _ hb hr1) h3 hk) h.1
    · obtain rfl : q = j := by
        rcases (show q = i ∨ q = j by simpa using hq) with h5 | h5
        · exact absurd h5 hqi
        · exact h5
      refine stepH_atL (hR) ho' (fun a'' w'' hr1 hk => ?_) h.2
      have := wpV_script hR hs hz s _ _ _ (hR.2 _ _ _ hb hr1) h4 hk
      rw [h2] at this
      exact this
theorem wp_region_v (R : World → World → Prop) (hR : Steady R) {id : Nat} {Q : Exit → Act → World → Prop} {a : Act} {w : World} {l : List Oper} (sc : Tr) (z : Nat) (oz : Oper) (hz : l[z]? = some oz) (hm : P.follows .mixedOrders = true)
    (hB : (Region.noSelect l.toArray && decide (cntT sc + 1 = l.length) && okV .any l.toArray z sc (Array.replicate l.length false)) = true)
    (h : ∀ w1, Ext w w1 → wpV P l.toArray R w1 oz (fun a'' w'' => Q .normal a'' w'') (pickT l sc) a w1) : (Code.region id l.toArray true).wp P Q a w := by
  simp only [Bool.and_eq_true, decide_eq_true_eq] at hB
  obtain ⟨⟨h1, h2⟩, h3⟩ := hB
  refine wp_region_any hm ?_
  have h4 := wpV_script (md := .any) (w1 := w.drew) hR h1 hz sc (Array.replicate l.length false) a w.drew (hR.1 _) h3 (h w.drew (Below.drew (Below.refl _ _)))
  rw [h2] at h4
  simpa using wpAny_of_L (fun a w h => h) _ _ _ _ h4
theorem wpV_nil {w1 : World} {oz : Oper} {Q : Act → World → Prop} {a : Act} {w : World} (h : ∀ K : Act → World → Prop, (∀ a w, Q a w → K a w) → if Region.wanted oz (yielded ops a.tmps) then herOp P oz a w K else K (a.put oz.dst undef) w) : wpV P ops R w1 oz Q .nil a w := h _ (fun _ _ h => h)
theorem wpV_q {w1 : World} {oz : Oper} {Q : Act → World → Prop} {a : Act} {w : World} {o : Oper} {r : TrO}
    (h : ∀ K : Act → Prop, (∀ a, wpV P ops R w1 oz Q r a w → K a) → if Region.wanted o (yielded ops a.tmps) then qR P R o a w1 K else K (a.put o.dst undef)) : wpV P ops R w1 oz Q (.q o r) a w :=
  h _ (fun _ h => h)
theorem wpV_u {w1 : World} {oz : Oper} {Q : Act → World → Prop} {a : Act} {w : World} {o : Oper} {r : TrO} (h : stepH P ops R o (wpV P ops R w1 oz Q r) a w) : wpV P ops R w1 oz Q (.u o r) a w := h
theorem wpV_b {w1 : World} {oz : Oper} {Q : Act → World → Prop} {a : Act} {w : World} {o o' : Oper} {r s : TrO} (h : stepH P ops R o (wpV P ops R w1 oz Q r) a w) (h' : stepH P ops R o' (wpV P ops R w1 oz Q s) a w) : wpV P ops R w1 oz Q (.b o o' r s) a w := ⟨h, h'⟩
end
end Go.Proofs.Ytkifapcegiajiaa
/- Walks: patrols are drawn. Conditions: sizes. -/
namespace Go.Proofs.Ytkifapcegiajiaa
open Go.RowKit
set_option linter.unusedVariables false

theorem oneP' {l : List T2} : ∀ u ∈ l.flatMap T2.v, u.oneCell' = true := by
  intro u hu
  obtain ⟨x, _, hx⟩ := List.mem_flatMap.1 hu
  simp only [T2.v, List.mem_cons, List.not_mem_nil, or_false] at hx
  rcases hx with rfl | rfl <;> rfl
/-- What the drawing of a patrol keeps: the room's box, the points so far. -/
structure Pd (A : Option Addr) (n c : Nat) (w : World) (g : Nat) (gB m d : Nat) (P : List T2) (wr : World) : Prop where
  D : Drawn w wr g
  rb : wr.cell? ⟨w.heap.size, 0, none⟩ = some (.slice A n c)
  O : wr.ownsRow (w.heap.size + 1) 35 2 (.slice (some ⟨gB, 0, none⟩) m d) m (P.flatMap T2.v)
section
variable {A : Option Addr} {n c : Nat} {w : World} {g gB m d : Nat} {P : List T2} {wr : World}
theorem Pd.ext (h : Pd A n c w g gB m d P wr) {wr' : World} (e : Ext wr wr') : Pd A n c w g gB m d P wr' :=
  ⟨h.D.ext e, old_cell e h.rb, own_ext h.O e⟩
theorem Pd.drawn (h : Pd A n c w g gB m d P wr) (hg : g < w.heap.size) {wr' : World} (e : Drawn wr wr' g) : Pd A n c w g gB m d P wr' :=
  ⟨h.D.trans e, (e.cell (World.block_lt_of_cell? wr _ h.rb) (by show w.heap.size ≠ g; omega)).trans h.rb, e.own h.O (by omega)⟩
theorem Pd.set (h : Pd A n c w g gB m d P wr) (hg : g < w.heap.size) {gx : Nat} (hx : w.heap.size + 1 ≤ gx) (hne : gB ≠ gx) (i : Nat) (u : Value) : Pd A n c w g gB m d P (wr.setCell ⟨gx, i, none⟩ u) := by
  have hgr : wr.grownBy (wr.setCell ⟨gx, i, none⟩ u) (some gx) := only_setCell (World.grownBy.refl _ _) (g := gx) (p := ⟨gx, i, none⟩) (.inl rfl) u
  refine ⟨h.D.grown hgr hg (fun k hk => by injection hk with hk; omega), ?_, h.O.kept hgr (.inr fun e => hne (Option.some.inj (show some gB = some gx from e)))⟩
  exact (World.cell?_of_block (hgr.block _ (World.block_lt_of_cell? wr _ h.rb) (by intro e; injection e with e; change w.heap.size = gx at e; omega))).trans h.rb
theorem Pd.push (h : Pd A n c w g gB m d P wr) (hg : g < w.heap.size) {wr' : World} {g' m' d' : Nat} {P' : List T2} (ho : wr'.ownsRow (w.heap.size + 1) 35 2 (.slice (some ⟨g', 0, none⟩) m' d') m' (P'.flatMap T2.v)) (hgr : wr.grownBy wr' (some gB)) : Pd A n c w g g' m' d' P' wr' := by
  have hB := (h.O.lt gB rfl).1
  refine ⟨h.D.grown hgr hg (fun k hk => by injection hk with hk; omega), ?_, ho⟩
  exact (World.cell?_of_block (hgr.block _ (World.block_lt_of_cell? wr _ h.rb) (by intro e; injection e with e; change w.heap.size = gB at e; omega))).trans h.rb
end
set_option maxRecDepth 100000 in
set_option maxHeartbeats 1600000 in
theorem l22Patrol_any (g : Nat) (A : Option Addr) (n c : Nat) (L : List T2) (w : World) (hc : Cur w g) (hl : Row w A (L.flatMap T2.v)) (hA : ∀ b off, A = some ⟨b, off, none⟩ → b ≠ g) (hn : L.length = n) (hro : roomS L = true) :
    Calls Try.prog 44 #[.pointer (some ⟨g, 0, none⟩), .agg #[.slice A n c]] w fun en w' => ∃ (gB m d : Nat) (P : List T2), en = .returned (.slice (some ⟨gB, 0, none⟩) m d) ∧ P.length = m ∧ patrolR L P = true ∧ w'.ownsRow w.heap.size 35 2 (.slice (some ⟨gB, 0, none⟩) m d) m (P.flatMap T2.v) ∧ Drawn w w' g := by
  subst hn
  have hlow := hc.lt
  have hr := roomP_of hro
  have hn10 : L.length ≤ 10 := hr.hi
  have hn3 : 3 ≤ L.length := hr.lo
  have HL := hid (fun w' (d : Drawn w w' g) => d.row hl hA)
  have HC := hid hc
  obtain ⟨bk, off, hAB, _⟩ := hl.t2 (i := 0) (by omega)
  have hbg : ¬ bk = g := hA bk off hAB
  clear hc hl hA hr
  subst hAB
  go_enter Try.func44, Try.ntmps44
  obtain ⟨w0, hw0⟩ : ∃ w0, w0 = w.alloc (.cells #[.slice (some ⟨bk, off, none⟩) L.length c] 33) := ⟨_, rfl⟩
  have e0 : Ext w w0 := by rw [hw0]; repeat (first | exact Ext.refl _ | refine Ext.alloc ?_ _ | assumption | refine Ext.over ?_ _ | refine Ext.drew ?_ | refine Ext.drewN ?_ _)
  have r0 := (show w0.cell? ⟨w.heap.size, 0, none⟩ = some (.slice (some ⟨bk, off, none⟩) L.length c) by rw [hw0]; go_simp)
  have hs0 : w0.heap.size = w.heap.size + 1 := by rw [hw0]; simp
  have HS0 := hid hs0
  have HD0 := hid (show Drawn w w0 g from (Drawn.refl HC.out).ext e0)
  have hln : ((L.length : Int) == 0) = false := by rw [beq_eq_false_iff_ne]; omega
  have hLn : ¬ L = [] := fun e => by rw [e] at hn3; simp at hn3
  clear e0 hs0
  go_wp2_with fail
  rw [← hw0]
  clear hw0
  have hwg : ¬ w.heap.size = g := by omega
  refine wp_region_r (LaterG g g) (laterG_steady _ _) [.q 0, .q 1, .q 2, .q 3, .q 4, .q 5, .u 6, .u 7, .u 8, .u 9, .u 10] (by kernel_rfl) (by kernel_rfl) (fun w1 e1 => ?_)
  have e1' : Ext w0 w1 := Ext.trans (by repeat (first | exact Ext.refl _ | refine Ext.alloc ?_ _ | assumption | refine Ext.over ?_ _ | refine Ext.drew ?_ | refine Ext.drewN ?_ _)) e1
  have r0 := old_cell e1' r0
  have HD1 := hid (HD0.out.ext e1')
  clear e1 e1' HD0
  simp only [pick, List.getElem?_cons_succ, List.getElem?_cons_zero]
  repeat (refine wpR_q (fun K hK => ?_); go_simp; refine hK _ ?_; clear hK K)
  refine wpR_u ?_
  refine stepH_of (fun K hK => ?_)
  go_simp
  refine (l01Below_any g L.length w1 HD1.out.2 (by omega)).mono ?_
  rintro _ w2 ⟨v, rfl, v0, v1, hd⟩
  refine ⟨_, rfl, hK _ _ (laterG_of (Kept.grown hd.1)) ?_⟩; clear hK K
  obtain ⟨k0, rfl⟩ : ∃ k : Nat, v = k := ⟨v.toNat, by omega⟩
  have hk0 : k0 < L.length := by omega
  have hk0t : (k0 : Int) < L.length := by omega
  have HD2 := hid (HD1.out.trans hd)
  have HR2 := hid ((hd.cell (p := ⟨w.heap.size, 0, none⟩) (World.block_lt_of_cell? w1 _ r0) (by show w.heap.size ≠ g; omega)).trans r0)
  obtain ⟨_, _, e3, hcA⟩ := (HL.out w2 HD2.out).t2 hk0
  obtain ⟨z0, z1⟩ := hcA k0 hk0
  cases e3
  clear hd HD1 r0 hcA v0 v1
  ((first | refine wpR_u ?_ | skip); refine stepH_of (fun K hK => ?_); go_simp; refine hK _ _ (laterG_of (Kept.refl _ _ _)) ?_; clear hK K)
  ((first | refine wpR_u ?_ | skip); refine stepH_of (fun K hK => ?_); go_simp; refine hK _ _ (laterG_of (Kept.refl _ _ _)) ?_; clear hK K)
  refine wpR_u ?_
  refine stepH_of (fun K hK => ?_)
  go_simp
  refine hK _ _ (laterG_of (Kept.of_ext (Ext.alloc (Ext.refl _) _))) ?_; clear hK K
  ((first | refine wpR_u ?_ | skip); refine stepH_of (fun K hK => ?_); go_simp; refine hK _ _ (laterG_of (Kept.refl _ _ _)) ?_; clear hK K)
  refine wpR_nil ?_
  have HP3 := hid (show Pd (some ⟨bk, off, none⟩) L.length c w g w2.heap.size 1 1 [at2 L k0] (w2.alloc (.cells #[.int .i64 (at2 L k0).a, .int .i64 (at2 L k0).b] 35)) from by
    have h1 := HD2.out.size
    have h2 := World.block_lt_of_cell? w2 _ HR2.out
    have h3 := World.ownsRow_lit (base := w2.heap.size) (e := 35) (size := 2) w2 #[.int .i64 (at2 L k0).a, .int .i64 (at2 L k0).b] 1 (by simp) (by decide) rfl
    exact ⟨HD2.out.ext (by repeat (first | exact Ext.refl _ | refine Ext.alloc ?_ _ | assumption | refine Ext.over ?_ _ | refine Ext.drew ?_ | refine Ext.drewN ?_ _)), old_cell (show Ext w2 _ by repeat (first | exact Ext.refl _ | refine Ext.alloc ?_ _ | assumption | refine Ext.over ?_ _ | refine Ext.drew ?_ | refine Ext.drewN ?_ _)) HR2.out, own_base h3 h2⟩)
  have HW3 := hid (show WK L [at2 L k0] from ⟨by simp, fun x hx => by rw [show x = at2 L k0 by simpa using hx]; exact at2_mem hk0, fun i hi => by simp at hi⟩)
  clear HD2 HR2 z0 z1
  generalize (w2.alloc (.cells #[.int .i64 (at2 L k0).a, .int .i64 (at2 L k0).b] 35)) = w3 at HP3 ⊢
  generalize w2.heap.size = gB0 at HP3 ⊢
  go_wp2_with fail
  refine (l01Below_any g 4 w3 HP3.out.D.2 (by omega)).mono ?_
  rintro _ w4 ⟨v, rfl, v0, v1, hd⟩
  obtain ⟨n, rfl⟩ : ∃ k : Nat, v = k := ⟨v.toNat, by omega⟩
  have hn3' : n ≤ 3 := by omega
  have HP4 := hid (HP3.out.drawn hlow hd)
  clear hd v0 v1 HP3
  go_wp2_with fail
  go_loopw [5, 7] (fun ov kv wr => ∃ (k gB m d : Nat) (P : List T2), kv = .int .i64 ↑k ∧ ov = .slice (some ⟨gB, 0, none⟩) m d ∧ P.length = m ∧ m ≤ 1 + 9 * k ∧ WK L P ∧ (k ≤ n ∨ (k = n + 1 ∧ seesS L (lastP P) (at2 P 0) = true)) ∧ Pd (some ⟨bk, off, none⟩) L.length c w g gB m d P wr) (fun _ kv _ => n + 1 - (intOf kv).toNat)
  case atStart => exact ⟨0, gB0, 1, 1, _, rfl, rfl, rfl, by omega, HW3.out, .inl (by omega), HP4.out⟩
  case round =>
    clear HP4 HW3
    obtain ⟨k, gB, m, d, P, rfl, rfl, hPm, hm, hwk, hkn, hpd⟩ := hrel
    have HPM := hid hPm
    have HWK := hid hwk
    have HP := hid hpd
    have hm0 : 0 < m := by have := hwk.ne; omega
    clear hPm hwk hpd
    by_cases hle : k ≤ n
    · have hlet : (k : Int) ≤ n := by omega
      have r0 := HP.out.rb
      clear hkn
      go_wp2_with fail
      apply two_ways
      case h =>
        intro KEY
        replace KEY := hid KEY
        refine wp_region_v (LaterG g g) (laterG_steady _ _) (.q 0 (.q 1 (.q 2 (.q 3 (.q 4 (.q 5 (.b 6 9 (.q 7 (.q 8 (.u 9 .nil))) (.u 6 (.q 7 (.q 8 .nil)))))))))) 10 _ rfl (by kernel_rfl) (by kernel_rfl) (fun w5 e5 => ?_)
        have e5' : Ext wr w5 := Ext.trans (by repeat (first | exact Ext.refl _ | refine Ext.alloc ?_ _ | assumption | refine Ext.over ?_ _ | refine Ext.drew ?_ | refine Ext.drewN ?_ _)) e5
        have HP5 := hid (HP.out.ext e5')
        have r0 := HP5.out.rb
        clear e5 e5'
        simp only [pickT, List.getElem?_cons_succ, List.getElem?_cons_zero]
        repeat (refine wpV_q (fun K hK => ?_); go_simp; refine hK _ ?_; clear hK K)
        refine wpV_b ?_ ?_
        · refine stepH_of (fun K hK => ?_)
          go_simp
          refine (l01Below_any g L.length w5 HP5.out.D.2 (by omega)).mono ?_
          rintro _ w6 ⟨v, rfl, v0, v1, hd⟩
          refine ⟨_, rfl, hK _ _ (laterG_of (Kept.grown hd.1)) ?_⟩; clear hK K
          obtain ⟨kt, rfl⟩ : ∃ k : Nat, v = k := ⟨v.toNat, by omega⟩
          have hkt : kt < L.length := by omega
          have hktt : (kt : Int) < L.length := by omega
          have HP6 := hid (HP5.out.drawn hlow hd)
          obtain ⟨_, _, e3, hcA⟩ := (HL.out w5 HP5.out.D).t2 hkt
          obtain ⟨z0, z1⟩ := hcA kt hkt
          cases e3
          clear hd r0 hcA v0 v1
          (refine wpV_q (fun K hK => ?_); go_simp; refine hK _ ?_; clear hK K)
          (refine wpV_q (fun K hK => ?_); go_simp; refine hK _ ?_; clear hK K)
          refine wpV_u ?_
          refine stepH_of (fun K hK => ?_)
          go_simp
          refine hK _ _ (laterG_of (Kept.of_ext (Ext.alloc (Ext.refl _) _))) ?_; clear hK K
          have HP7 := hid (HP6.out.ext (show Ext w6 (w6.alloc (.cells #[.int .i64 0, .int .i64 0] 35)) by repeat (first | exact Ext.refl _ | refine Ext.alloc ?_ _ | assumption | refine Ext.over ?_ _ | refine Ext.drew ?_ | refine Ext.drewN ?_ _)))
          have HT7 := hid (Two.fresh (w := w6) (x := 0) (y := 0) (t := 35))
          have hgx : w.heap.size + 1 ≤ w6.heap.size := World.block_lt_of_cell? w6 _ HP6.out.rb
          have hgB : gB ≠ w6.heap.size := by have := (HP6.out.O.lt gB rfl).2; omega
          clear HP5 HP6 z0 z1
          generalize (w6.alloc (.cells #[.int .i64 0, .int .i64 0] 35)) = w7 at HP7 HT7 ⊢
          generalize w6.heap.size = gx at HT7 hgx hgB ⊢
          obtain ⟨c0, c1, f0, f1⟩ := HT7.out
          refine wpV_nil (fun K hK => ?_)
          go_simp
          refine hK _ _ ?_; clear hK K
          have F := And.intro hkt (And.intro ((HP7.out.set hlow hgx hgB 0 (.int .i64 (at2 L kt).a)).set hlow hgx hgB 1 (.int .i64 (at2 L kt).b)) (And.intro (HT7.out.put (x' := (at2 L kt).a) (y' := (at2 L kt).b)) (And.intro hgx hgB)))
          clear HP7 HT7 hgx hgB hkt hktt c0 c1 f0 f1
          generalize (w7.setCell ⟨gx, 0, none⟩ (.int .i64 (at2 L kt).a)).setCell ⟨gx, 1, none⟩ (.int .i64 (at2 L kt).b) = W at F ⊢
          revert F
          revert W
          revert gx
          revert kt
          exact KEY.out
        · refine stepH_of (fun K hK => ?_)
          go_simp
          refine hK _ _ (laterG_of (Kept.of_ext (Ext.alloc (Ext.refl _) _))) ?_; clear hK K
          have HP6 := hid (HP5.out.ext (show Ext w5 (w5.alloc (.cells #[.int .i64 0, .int .i64 0] 35)) by repeat (first | exact Ext.refl _ | refine Ext.alloc ?_ _ | assumption | refine Ext.over ?_ _ | refine Ext.drew ?_ | refine Ext.drewN ?_ _)))
          have HT6 := hid (Two.fresh (w := w5) (x := 0) (y := 0) (t := 35))
          have hgx : w.heap.size + 1 ≤ w5.heap.size := World.block_lt_of_cell? w5 _ HP5.out.rb
          have hgB : gB ≠ w5.heap.size := by have := (HP5.out.O.lt gB rfl).2; omega
          generalize (w5.alloc (.cells #[.int .i64 0, .int .i64 0] 35)) = w6 at HP6 HT6 ⊢
          generalize w5.heap.size = gx at HT6 hgx hgB ⊢
          refine wpV_u ?_
          refine stepH_of (fun K hK => ?_)
          go_simp
          refine (l01Below_any g L.length w6 HP6.out.D.2 (by omega)).mono ?_
          rintro _ w7 ⟨v, rfl, v0, v1, hd⟩
          refine ⟨_, rfl, hK _ _ (laterG_of (Kept.grown hd.1)) ?_⟩; clear hK K
          obtain ⟨kt, rfl⟩ : ∃ k : Nat, v = k := ⟨v.toNat, by omega⟩
          have hkt : kt < L.length := by omega
          have hktt : (kt : Int) < L.length := by omega
          have HP7 := hid (HP6.out.drawn hlow hd)
          have HT7 := hid (HT6.out.kept hd.1 (fun e => by injection e with e; omega))
          obtain ⟨_, _, e3, hcA⟩ := (HL.out w5 HP5.out.D).t2 hkt
          obtain ⟨z0, z1⟩ := hcA kt hkt
          cases e3
          clear hd r0 hcA v0 v1
          (refine wpV_q (fun K hK => ?_); go_simp; refine hK _ ?_; clear hK K)
          (refine wpV_q (fun K hK => ?_); go_simp; refine hK _ ?_; clear hK K)
          clear HP5 HP6 HT6 z0 z1
          obtain ⟨c0, c1, f0, f1⟩ := HT7.out
          refine wpV_nil (fun K hK => ?_)
          go_simp
          refine hK _ _ ?_; clear hK K
          have F := And.intro hkt (And.intro ((HP7.out.set hlow hgx hgB 0 (.int .i64 (at2 L kt).a)).set hlow hgx hgB 1 (.int .i64 (at2 L kt).b)) (And.intro (HT7.out.put (x' := (at2 L kt).a) (y' := (at2 L kt).b)) (And.intro hgx hgB)))
          clear HP7 HT7 hgx hgB hkt hktt c0 c1 f0 f1
          generalize (w7.setCell ⟨gx, 0, none⟩ (.int .i64 (at2 L kt).a)).setCell ⟨gx, 1, none⟩ (.int .i64 (at2 L kt).b) = W at F ⊢
          revert F
          revert W
          revert gx
          revert kt
          exact KEY.out
      case p =>
        rintro kt gx W ⟨hkt, HP7, HT7, hgx, hgB⟩
        have HP7 := hid HP7
        have HT7 := hid HT7
        clear r0 HP
        obtain ⟨il, hil, hlp⟩ := mem_at2 (HWK.out.cor _ (at2_mem (i := m - 1) (by have := HPM.out; omega)))
        have HLP := hid hlp.symm
        have hlast : lastP P = at2 L il := by unfold lastP; rw [HPM.out]; exact hlp.symm
        have HLA := hid hlast
        clear hlp hlast
        have hin : ∀ i, i < L.length → isIn L (at2 L i) = true := fun i hi => by
          have hr := roomP_of hro
          rw [isIn_val, hro, hr.pok i hi, place_corner hr hi]; rfl
        have HIN := hid hin
        clear hin
        by_cases hkn : k = n
        · obtain ⟨jq, hjl, hjq⟩ := mem_at2 (HWK.out.cor _ (at2_mem (i := 0) HWK.out.ne))
          have hlt : ¬ (k : Int) < n := by omega
          have hne0 : ((k : Int) == n) = true := by rw [beq_iff_eq]; omega
          obtain ⟨_, _, e3, hcP⟩ := (Row.of_own HP7.out.O).t2 (i := 0) HWK.out.ne
          obtain ⟨y0, y1⟩ := hcP 0 HWK.out.ne
          cases e3
          rw [show 0 + 0 * 2 = 0 by omega] at y0 y1
          rw [← hjq] at y0 y1
          have HJQ := hid hjq
          obtain ⟨c0, c1, f0, f1⟩ := HT7.out
          clear hcP
          have HWAY := hid (fun w' (h : Row w' (some ⟨bk, off, none⟩) (L.flatMap T2.v)) => show Calls Try.prog 7 #[.agg #[.slice (some ⟨bk, off, none⟩) L.length c], .agg #[.int .i64 (at2 L il).a, .int .i64 (at2 L il).b], .agg #[.int .i64 (at2 L jq).a, .int .i64 (at2 L jq).b]] w' fun en w'' => ∃ A' m' c', en = .returned (.tuple #[.slice A' m' c', .bool true]) ∧ w''.ownsRow w'.heap.size 3 1 (.slice A' m' c') m' (vl (wayS L (at2 L il) (at2 L jq))) ∧ Ext w' w'' from by
            have h1 := sWay_any (some ⟨bk, off, none⟩) L.length c L (at2 L il) (at2 L jq) w' h rfl (by omega)
            rw [HIN.out il hil, HIN.out jq hjl] at h1
            exact h1)
          have HCH := hid (wayS_chain hro hil hjl)
          have HP7 := hid ((HP7.out.set hlow hgx hgB 0 (.int .i64 (at2 L jq).a)).set hlow hgx hgB 1 (.int .i64 (at2 L jq).b))
          have HT7 := hid (HT7.out.put (x' := (at2 L jq).a) (y' := (at2 L jq).b))
          have hgb1 : ¬ gB = gx := hgB
          have hgb2 : ¬ gx = gB := fun e => hgB e.symm
          have HKN := hid hkn
          clear hjq hkn
          go_wp2_with fail
          clear y0 y1 c0 c1 f0 f1
          generalize (W.setCell ⟨gx, 0, none⟩ (.int .i64 (at2 L jq).a)).setCell ⟨gx, 1, none⟩ (.int .i64 (at2 L jq).b) = W at HP7 HT7 ⊢
          have hwrap : IntKind.i64.wrap ((m : Int) - 1) = (m : Int) - 1 := IntWalk.i64_in _ (by omega)
          have hm1 : (m : Int) - 1 < m := by omega
          have hm2 : (0 : Int) ≤ (m : Int) - 1 := by omega
          have hm3 : (1 : Int) ≤ m := by omega
          refine wp_region_x [.q 0, .q 1, .q 2, .q 3, .q 4, .q 5, .q 6, .q 7, .u 8, .q 9, .q 10, .q 11, .q 12, .q 13] (by kernel_rfl) (by kernel_rfl) (fun w8 e8 => ?_)
          have e8' : Ext W w8 := Ext.trans (by repeat (first | exact Ext.refl _ | refine Ext.alloc ?_ _ | assumption | refine Ext.over ?_ _ | refine Ext.drew ?_ | refine Ext.drewN ?_ _)) e8
          have HP8 := hid (HP7.out.ext e8')
          have HT8 := hid (HT7.out.ext e8')
          have r0 := HP8.out.rb
          obtain ⟨x0, x1, _, _⟩ := HT8.out
          obtain ⟨_, _, e3, hcP⟩ := (Row.of_own HP8.out.O).t2 (i := m - 1) (by have := HPM.out; omega)
          obtain ⟨y0, y1⟩ := hcP (m - 1) (by have := HPM.out; omega)
          cases e3
          rw [Nat.zero_add] at y0 y1
          rw [HLP.out] at y0 y1
          clear e8 e8' hcP
          simp only [pick, List.getElem?_cons_succ, List.getElem?_cons_zero]
          repeat (refine wpZ_q (fun K hK => ?_); go_simp; refine hK _ ?_; clear hK K)
          refine wpZ_u ?_
          refine stepH_of (fun K hK => ?_)
          go_simp
          refine (HWAY.out w8 (HL.out w8 HP8.out.D)).mono ?_
          rintro _ w9 ⟨A9, m9, c9, rfl, ho9, he9⟩
          refine ⟨_, rfl, hK _ _ he9 ?_⟩; clear hK K
          have hm9 : m9 = (wayS L (at2 L il) (at2 L jq)).length := by have := ho9.1; rw [vl_len] at this; omega
          have HP9 := hid (HP8.out.ext he9)
          have HT9 := hid (HT8.out.ext he9)
          have HK9 := hid (Row.of_own ho9)
          have HM9 := hid hm9
          have r0 := HP9.out.rb
          clear ho9 he9 hm9 x0 x1 y0 y1 HP8 HT8
          repeat (refine wpZ_q (fun K hK => ?_); go_simp; refine hK _ ?_; clear hK K)
          refine wpZ_nil ?_
          have hm98 : m9 ≤ 8 := by have := HM9.out; have := HCH.out.2.2; omega
          go_wp2_with fail
          refine (sPoints_any (some ⟨bk, off, none⟩) L.length c L A9 m9 c9 (wayS L (at2 L il) (at2 L jq)) w9 (HL.out w9 HP9.out.D) rfl hro HK9.out HM9.out.symm (by omega) HCH.out.2.1).mono ?_
          rintro _ w10 ⟨gP, cP, rfl, ho10, he10⟩
          have HP10 := hid (HP9.out.ext he10)
          have HT10 := hid (HT9.out.ext he10)
          have HPT := hid (show ∀ j u, ((ptsL L (wayS L (at2 L il) (at2 L jq))).flatMap T2.v)[j]? = some u → w10.cell? ((⟨gP, 0, none⟩ : Addr).add j) = some u from fun j u hu => by
            have hj := (List.getElem?_eq_some_iff.1 hu).1
            have hl := ho10.1
            rw [show (⟨gP, 0, none⟩ : Addr).add j = ⟨gP, j, none⟩ from by unfold Addr.add; split <;> simp_all, ho10.cellAt j (by omega)]
            exact hu)
          have HPL := hid ho10.1
          have hsz : w.heap.size + 1 ≤ w10.heap.size := World.block_lt_of_cell? w10 _ HP10.out.rb
          have HSZ := hid hsz
          clear ho10 he10 HP9 HT9 HK9 hsz
          go_wp2_with (at_builtin; refine wpList_pushG rfl (.tmp 60) (.tmp 63) 31 rfl 35 Try.underlying31 info_PointC rfl (by decide) (w.heap.size + 1) (some ⟨gB, 0, none⟩) m d (P.flatMap T2.v) rfl w10 HP10.out.O (by repeat (first | exact Ext.refl _ | refine Ext.alloc ?_ _ | assumption | refine Ext.over ?_ _ | refine Ext.drew ?_ | refine Ext.drewN ?_ _)) HSZ.out ⟨gP, 0, none⟩ m9 cP ((ptsL L (wayS L (at2 L il) (at2 L jq))).flatMap T2.v) rfl HPL.out HPT.out oneP' (by omega) (by decide) ?_)
          intro A11 c11 w11 hown11 hg11
          obtain ⟨g11, rfl⟩ := own_addr hown11 (by omega)
          have HP11 := hid (HP10.out.push hlow (P' := P ++ ptsL L (wayS L (at2 L il) (at2 L jq))) (by rw [List.flatMap_append]; exact hown11) hg11)
          have HT11 := hid (HT10.out.kept hg11 (fun e => hgB (Option.some.inj (show some gB = some gx from e))))
          have HWY := hid (WK.way (q := at2 L jq) (ptsL L (wayS L (at2 L il) (at2 L jq))) HWK.out (by rw [HLA.out]; exact HCH.out.1) (fun y hy => by
            obtain ⟨kk, hkk, rfl⟩ := List.mem_map.1 hy
            exact at2_mem (HCH.out.2.1 kk hkk)))
          have HF1 := hid (show at2 (P ++ ptsL L (wayS L (at2 L il) (at2 L jq))) 0 = at2 L jq by
            have h0 := HWK.out.ne
            rw [at2_eq _ _ (by rw [List.length_append]; omega), List.getElem_append_left h0, ← at2_eq _ _ h0]; exact HJQ.out.symm)
          have HLN := hid (show (P ++ ptsL L (wayS L (at2 L il) (at2 L jq))).length = m + m9 by
            rw [List.length_append, HPM.out, HM9.out]; unfold ptsL; rw [List.length_map])
          have hsz11 : w.heap.size + 1 ≤ w11.heap.size := World.block_lt_of_cell? w11 _ HP11.out.rb
          have HSZ1 := hid hsz11
          obtain ⟨x0, x1, _, _⟩ := HT11.out
          clear hown11 hg11 HP10 HT10 HPT HPL HSZ hsz11
          generalize P ++ ptsL L (wayS L (at2 L il) (at2 L jq)) = P1 at HP11 HWY HLN HF1
          have HFI := hid (show at2 P1 0 = at2 L jq from HF1.out)
          go_wp2_with fail
          go_roundw
          case rel => exact ⟨k + 1, g11, m + m9, c11, P1, by go_num, rfl, HLN.out, by omega, HWY.out.1, .inr ⟨by have := HKN.out; omega, by rw [HFI.out]; exact HWY.out.2⟩, HP11.out.ext (by repeat (first | exact Ext.refl _ | refine Ext.alloc ?_ _ | assumption | refine Ext.over ?_ _ | refine Ext.drew ?_ | refine Ext.drewN ?_ _))⟩
          case measure => simp [intOf]; omega
        · obtain ⟨jq, hjq⟩ : ∃ jq, jq = kt := ⟨_, rfl⟩
          have hjl : jq < L.length := by omega
          rw [← hjq] at HT7
          have hlt : (k : Int) < n := by omega
          have hne0 : ((k : Int) == n) = false := by rw [beq_eq_false_iff_ne]; omega
          have HWAY := hid (fun w' (h : Row w' (some ⟨bk, off, none⟩) (L.flatMap T2.v)) => show Calls Try.prog 7 #[.agg #[.slice (some ⟨bk, off, none⟩) L.length c], .agg #[.int .i64 (at2 L il).a, .int .i64 (at2 L il).b], .agg #[.int .i64 (at2 L jq).a, .int .i64 (at2 L jq).b]] w' fun en w'' => ∃ A' m' c', en = .returned (.tuple #[.slice A' m' c', .bool true]) ∧ w''.ownsRow w'.heap.size 3 1 (.slice A' m' c') m' (vl (wayS L (at2 L il) (at2 L jq))) ∧ Ext w' w'' from by
            have h1 := sWay_any (some ⟨bk, off, none⟩) L.length c L (at2 L il) (at2 L jq) w' h rfl (by omega)
            rw [HIN.out il hil, HIN.out jq hjl] at h1
            exact h1)
          have HCH := hid (wayS_chain hro hil hjl)
          clear hjq hkn
          go_wp2_with fail
          have hwrap : IntKind.i64.wrap ((m : Int) - 1) = (m : Int) - 1 := IntWalk.i64_in _ (by omega)
          have hm1 : (m : Int) - 1 < m := by omega
          have hm2 : (0 : Int) ≤ (m : Int) - 1 := by omega
          have hm3 : (1 : Int) ≤ m := by omega
          refine wp_region_x [.q 0, .q 1, .q 2, .q 3, .q 4, .q 5, .q 6, .q 7, .u 8, .q 9, .q 10, .q 11, .q 12, .q 13] (by kernel_rfl) (by kernel_rfl) (fun w8 e8 => ?_)
          have e8' : Ext W w8 := Ext.trans (by repeat (first | exact Ext.refl _ | refine Ext.alloc ?_ _ | assumption | refine Ext.over ?_ _ | refine Ext.drew ?_ | refine Ext.drewN ?_ _)) e8
          have HP8 := hid (HP7.out.ext e8')
          have HT8 := hid (HT7.out.ext e8')
          have r0 := HP8.out.rb
          obtain ⟨x0, x1, _, _⟩ := HT8.out
          obtain ⟨_, _, e3, hcP⟩ := (Row.of_own HP8.out.O).t2 (i := m - 1) (by have := HPM.out; omega)
          obtain ⟨y0, y1⟩ := hcP (m - 1) (by have := HPM.out; omega)
          cases e3
          rw [Nat.zero_add] at y0 y1
          rw [HLP.out] at y0 y1
          clear e8 e8' hcP
          simp only [pick, List.getElem?_cons_succ, List.getElem?_cons_zero]
          repeat (refine wpZ_q (fun K hK => ?_); go_simp; refine hK _ ?_; clear hK K)
          refine wpZ_u ?_
          refine stepH_of (fun K hK => ?_)
          go_simp
          refine (HWAY.out w8 (HL.out w8 HP8.out.D)).mono ?_
          rintro _ w9 ⟨A9, m9, c9, rfl, ho9, he9⟩
          refine ⟨_, rfl, hK _ _ he9 ?_⟩; clear hK K
          have hm9 : m9 = (wayS L (at2 L il) (at2 L jq)).length := by have := ho9.1; rw [vl_len] at this; omega
          have HP9 := hid (HP8.out.ext he9)
          have HT9 := hid (HT8.out.ext he9)
          have HK9 := hid (Row.of_own ho9)
          have HM9 := hid hm9
          have r0 := HP9.out.rb
          clear ho9 he9 hm9 x0 x1 y0 y1 HP8 HT8
          repeat (refine wpZ_q (fun K hK => ?_); go_simp; refine hK _ ?_; clear hK K)
          refine wpZ_nil ?_
          have hm98 : m9 ≤ 8 := by have := HM9.out; have := HCH.out.2.2; omega
          go_wp2_with fail
          refine (sPoints_any (some ⟨bk, off, none⟩) L.length c L A9 m9 c9 (wayS L (at2 L il) (at2 L jq)) w9 (HL.out w9 HP9.out.D) rfl hro HK9.out HM9.out.symm (by omega) HCH.out.2.1).mono ?_
          rintro _ w10 ⟨gP, cP, rfl, ho10, he10⟩
          have HP10 := hid (HP9.out.ext he10)
          have HT10 := hid (HT9.out.ext he10)
          have HPT := hid (show ∀ j u, ((ptsL L (wayS L (at2 L il) (at2 L jq))).flatMap T2.v)[j]? = some u → w10.cell? ((⟨gP, 0, none⟩ : Addr).add j) = some u from fun j u hu => by
            have hj := (List.getElem?_eq_some_iff.1 hu).1
            have hl := ho10.1
            rw [show (⟨gP, 0, none⟩ : Addr).add j = ⟨gP, j, none⟩ from by unfold Addr.add; split <;> simp_all, ho10.cellAt j (by omega)]
            exact hu)
          have HPL := hid ho10.1
          have hsz : w.heap.size + 1 ≤ w10.heap.size := World.block_lt_of_cell? w10 _ HP10.out.rb
          have HSZ := hid hsz
          clear ho10 he10 HP9 HT9 HK9 hsz
          go_wp2_with (at_builtin; refine wpList_pushG rfl (.tmp 60) (.tmp 63) 31 rfl 35 Try.underlying31 info_PointC rfl (by decide) (w.heap.size + 1) (some ⟨gB, 0, none⟩) m d (P.flatMap T2.v) rfl w10 HP10.out.O (by repeat (first | exact Ext.refl _ | refine Ext.alloc ?_ _ | assumption | refine Ext.over ?_ _ | refine Ext.drew ?_ | refine Ext.drewN ?_ _)) HSZ.out ⟨gP, 0, none⟩ m9 cP ((ptsL L (wayS L (at2 L il) (at2 L jq))).flatMap T2.v) rfl HPL.out HPT.out oneP' (by omega) (by decide) ?_)
          intro A11 c11 w11 hown11 hg11
          obtain ⟨g11, rfl⟩ := own_addr hown11 (by omega)
          have HP11 := hid (HP10.out.push hlow (P' := P ++ ptsL L (wayS L (at2 L il) (at2 L jq))) (by rw [List.flatMap_append]; exact hown11) hg11)
          have HT11 := hid (HT10.out.kept hg11 (fun e => hgB (Option.some.inj (show some gB = some gx from e))))
          have HWY := hid (WK.way (q := at2 L jq) (ptsL L (wayS L (at2 L il) (at2 L jq))) HWK.out (by rw [HLA.out]; exact HCH.out.1) (fun y hy => by
            obtain ⟨kk, hkk, rfl⟩ := List.mem_map.1 hy
            exact at2_mem (HCH.out.2.1 kk hkk)))
          have HLN := hid (show (P ++ ptsL L (wayS L (at2 L il) (at2 L jq))).length = m + m9 by
            rw [List.length_append, HPM.out, HM9.out]; unfold ptsL; rw [List.length_map])
          have hsz11 : w.heap.size + 1 ≤ w11.heap.size := World.block_lt_of_cell? w11 _ HP11.out.rb
          have HSZ1 := hid hsz11
          obtain ⟨x0, x1, _, _⟩ := HT11.out
          clear hown11 hg11 HP10 HT10 HPT HPL HSZ hsz11
          generalize P ++ ptsL L (wayS L (at2 L il) (at2 L jq)) = P1 at HP11 HWY HLN
          go_wp2_with (at_builtin; refine wpList_pushG rfl (.tmp 68) (.tmp 70) 31 rfl 35 Try.underlying31 info_PointC rfl (by decide) (w.heap.size + 1) (some ⟨g11, 0, none⟩) (m + m9) c11 (P1.flatMap T2.v) rfl w11 HP11.out.O (by repeat (first | exact Ext.refl _ | refine Ext.alloc ?_ _ | assumption | refine Ext.over ?_ _ | refine Ext.drew ?_ | refine Ext.drewN ?_ _)) HSZ1.out _ 1 1 [.int .i64 (at2 L jq).a, .int .i64 (at2 L jq).b] rfl rfl (lit_cells _ _ (by first | (simp; done) | simp [ovr_size]) _ _) (by intro u hu; simp at hu; rcases hu with rfl | rfl <;> rfl) (by omega) (by decide) ?_)
          intro A12 c12 w12 hown12 hg12
          obtain ⟨g12, rfl⟩ := own_addr hown12 (by omega)
          have HP12 := hid (HP11.out.push hlow (P' := P1 ++ [at2 L jq]) (by rw [List.flatMap_append]; exact hown12) hg12)
          have HW12 := hid (HWY.out.1.snoc HWY.out.2 (at2_mem hjl))
          clear hown12 hg12 HP11 HT11 x0 x1
          go_wp2_with fail
          go_roundw
          case rel => exact ⟨k + 1, g12, m + m9 + 1, c12, P1 ++ [at2 L jq], by go_num, rfl, by rw [List.length_append, HLN.out]; rfl, by omega, HW12.out, .inl (by omega), HP12.out.ext (by repeat (first | exact Ext.refl _ | refine Ext.alloc ?_ _ | assumption | refine Ext.over ?_ _ | refine Ext.drew ?_ | refine Ext.drewN ?_ _))⟩
          case measure => simp [intOf]; omega
    · rcases hkn with h | ⟨rfl, hsee⟩
      · exact absurd h hle
      have hlet : ¬ ((n + 1 : Nat) : Int) ≤ n := by omega
      have HPA := hid (HWK.out.patrol hro (by have := HPM.out; omega) hsee)
      clear hsee
      go_wp2_with fail
      go_ret
      first | exact ⟨gB, m, d, rfl, P, HPM.out, HPA.out, own_base HP.out.O (by omega), HP.out.D⟩ | exact ⟨gB, m, d, P, rfl, HPM.out, HPA.out, own_base HP.out.O (by omega), HP.out.D⟩
theorem own_capP {w : World} {base n c size : Nat} {e : TypeId} {A : Option Addr} {xs : List Value} (h : w.ownsRow base e size (.slice A n c) n xs) : n ≤ c := by
  rcases h.2 with ⟨hv, hn⟩ | ⟨g, cap, cur, hv, _, _, hc, _⟩
  · injection hv with _ h2 h3; omega
  · injection hv with _ h2 h3; omega
set_option maxRecDepth 100000 in
set_option maxHeartbeats 3200000 in
theorem DrawPatrol_any (A : Option Addr) (n c : Nat) (bs : List Int) (w : World) (hl : Row w A (bs.map (Value.int .u8))) (hn : bs.length = n) (hx : n ≤ 1048576) (hz : ∀ z ∈ bs, 0 ≤ z ∧ z ≤ 255) :
    Calls Try.prog 17 #[.slice A n c] w fun en w' => ∃ (A : Option Addr) (k c : Nat) (L : List T2) (gB m d : Nat) (P : List T2), en = .returned (.tuple #[.agg #[.slice A k c], .slice (some ⟨gB, 0, none⟩) m d]) ∧ L.length = k ∧ roomS L = true ∧ P.length = m ∧ m ≤ d ∧ patrolR L P = true ∧ Row w' A (L.flatMap T2.v) ∧ Row w' (some ⟨gB, 0, none⟩) (P.flatMap T2.v) ∧ Ext w w' := by
  have HZ := hid hz
  clear hz
  go_enter Try.func17, Try.ntmps17
  go_wp2_with fail
  obtain ⟨wb, hwb⟩ : ∃ wb, wb = w.alloc (.cells #[.slice none 0 0] 33) := ⟨_, rfl⟩
  have EB : Ext w wb := by rw [hwb]; repeat (first | exact Ext.refl _ | refine Ext.alloc ?_ _ | assumption | refine Ext.over ?_ _ | refine Ext.drew ?_ | refine Ext.drewN ?_ _)
  have HB2 := hid (show Box wb w.heap.size (.slice none 0 0) from ⟨by rw [hwb]; go_simp, by rw [hwb]; go_simp⟩)
  have HSB := hid (show w.heap.size + 1 = wb.heap.size by rw [hwb]; simp)
  refine (l01New_any A n c bs _ (hl.ext (by repeat (first | exact Ext.refl _ | refine Ext.alloc ?_ _ | assumption | refine Ext.over ?_ _ | refine Ext.drew ?_ | refine Ext.drewN ?_ _))) hn hx HZ.out).mono ?_
  rw [← hwb]
  clear hwb
  rintro _ w1 ⟨g, rfl, hg, hc, he⟩
  have HC := hid hc
  have HE := hid (EB.trans he)
  have hbl := HSB.out
  have hgl := hc.lt
  have H2 := hid (HB2.out.blk (he.block _ (by omega)))
  have hs1 := he.size
  clear hc he HB2 HSB EB
  go_wp2_with fail
  refine (l04Room_any g w1 HC.out).mono ?_
  rintro _ w2 ⟨B, k, d, L, rfl, hll, hrm, ho, hd⟩
  have HRM := hid hrm
  have HLL := hid hll
  obtain ⟨w3, hw3⟩ : ∃ w3, w3 = w2.alloc (.cells #[.slice B k d] 33) := ⟨_, rfl⟩
  have e3 : Ext w2 w3 := by rw [hw3]; repeat (first | exact Ext.refl _ | refine Ext.alloc ?_ _ | assumption | refine Ext.over ?_ _ | refine Ext.drew ?_ | refine Ext.drewN ?_ _)
  have HD3 := hid (hd.ext e3)
  have HO3 := hid (own_ext ho e3)
  have HR3 := hid (show Box w3 w2.heap.size (.slice B k d) from ⟨by rw [hw3]; go_simp, by rw [hw3]; go_simp⟩)
  have hbr : w1.heap.size ≤ w2.heap.size := hd.size
  go_wp2_with fail
  rw [← hw3]
  clear hw3 e3 ho hd hll hrm
  generalize w2.heap.size = br at HR3 hbr ⊢
  have hxr := HR3.out.1
  have hbg : ¬ br = g := by omega
  have hr2 : ¬ br = w.heap.size := by omega
  have hg2 : ¬ g = w.heap.size := by omega
  refine wp_region_e (LaterG g w.heap.size) (laterG_steady _ _) [.q 0, .q 1, .q 2, .u 3, .u 4] 5 _ rfl (by kernel_rfl) (by kernel_rfl) (fun w6 e6 => ?_)
  have HD6 := hid (HD3.out.ext e6)
  have HO6 := hid (own_ext HO3.out e6)
  have hxr := old_cell e6 hxr
  clear e6 HD3 HO3 HR3
  simp only [pick, List.getElem?_cons_succ, List.getElem?_cons_zero]
  repeat (refine wpE_q (fun K hK => ?_); go_simp; refine hK _ ?_; clear hK K)
  refine wpE_u ?_
  refine stepH_of (fun K hK => ?_)
  go_simp
  refine (l22Patrol_any g B k d L w6 HD6.out.2 (Row.of_own HO6.out) (fun b off e => by have := (HO6.out.lt b (by rw [e]; rfl)).1; omega) HLL.out HRM.out.1).mono ?_
  rintro _ w7 ⟨gC, m, d2, l, rfl, hlm, hcs, hol, hd⟩
  refine ⟨_, rfl, hK _ _ (laterG_of (Kept.grown hd.1)) ?_⟩; clear hK K
  have HCS := hid hcs
  have HLM := hid hlm
  have HMD := hid (own_capP hol)
  have HD7 := hid (HD6.out.trans hd)
  have HO7 := hid (hd.own HO6.out hgl)
  have HL7 := hid (own_base (base' := w1.heap.size) hol HD6.out.size)
  have H27 := hid (H2.out.blk (HD7.out.1.block _ (by omega) (by intro e; injection e with e; exact hg2 e.symm)))
  have hc2 := H27.out.1
  have hf2 := H27.out.2
  clear hd hcs hlm hol HD6 HO6 hxr H2
  refine wpE_u ?_
  refine stepH_of (fun K hK => ?_)
  go_simp
  have hgr : w7.grownBy (w7.setCell ⟨w.heap.size, 0, none⟩ (.slice B k d)) (some w.heap.size) := only_setCell (g := w.heap.size) (p := ⟨w.heap.size, 0, none⟩) (World.grownBy.refl _ _) (.inl rfl) _
  refine hK _ _ (laterG_of (Kept.grown' hgr)) ?_; clear hK K
  obtain ⟨w8, hw8⟩ : ∃ w8, w8 = w7.setCell ⟨w.heap.size, 0, none⟩ (.slice B k d) := ⟨_, rfl⟩
  rw [← hw8] at hgr ⊢
  have hx2 := H27.out.put (.slice B k d)
  rw [← hw8] at hx2
  have HO8 := hid (HO7.out.kept hgr (.inr fun e => by have := (HO7.out.lt _ e).1; omega))
  have HL8 := hid (HL7.out.kept hgr (.inr fun e => by have := (HL7.out.lt _ e).1; omega))
  have HE8 := hid (show Ext w w8 by rw [hw8]; exact (HD7.out.out HE.out (by omega)).setCell (by exact Nat.le_refl _) _)
  have hc2 := hx2.1
  clear hw8 hgr HD7 H27 hx2 hf2
  refine wpE_nil (fun K hK => ?_)
  go_simp
  refine hK _ _ ?_; clear hK K
  go_wp2_with fail
  refine bodyPost_ret (v := .tuple #[.agg #[.slice B k d], .slice (some ⟨gC, 0, none⟩) m d2]) (by first | (simp [results, Try.results17, go_sem, hc2]; done) | (unfold results; rw [Try.results17]; go_simp)) rfl ?_
  exact ⟨B, k, d, L, gC, m, d2, l, rfl, HLL.out, HRM.out.1, HLM.out, HMD.out, HCS.out, Row.of_own HO8.out, Row.of_own HL8.out, HE8.out⟩
end Go.Proofs.Ytkifapcegiajiaa
/- Walks of the helpers of the laws that draw. Conditions: sizes. -/
namespace Go.Proofs.Ytkifapcegiajiaa
open Go.RowKit
set_option linter.unusedVariables false

theorem big_any (A : Option Addr) (n c : Nat) (w : World) : Gives Try.prog 16 #[.slice A n c] w (.bool (decide ((1048576 : Int) < n))) := by
  (unfold Gives; go_enter Try.func16, Try.ntmps16)
  go_wp2_with fail
  go_ret
  exact ⟨rfl, by repeat (first | exact Ext.refl _ | refine Ext.alloc ?_ _ | assumption | refine Ext.over ?_ _ | refine Ext.drew ?_ | refine Ext.drewN ?_ _)⟩
/-- A number out of the bytes. -/
def atV (bs : List Int) (i : Nat) : Int := if bs.length = 0 then 0 else bs.getD ((i * 5 + 1) % bs.length) 0
theorem atV_bound {bs : List Int} (hz : ∀ z ∈ bs, 0 ≤ z ∧ z ≤ 255) (i : Nat) : 0 ≤ atV bs i ∧ atV bs i ≤ 255 := by
  unfold atV
  split
  · omega
  · rename_i h
    have hlt : (i * 5 + 1) % bs.length < bs.length := Nat.mod_lt _ (by omega)
    rw [List.getD_eq_getElem?_getD, List.getElem?_eq_getElem hlt]
    exact hz _ (List.getElem_mem hlt)
theorem at_any (A : Option Addr) (n c : Nat) (bs : List Int) (i : Nat) (w : World) (hl : Row w A (bs.map (Value.int .u8))) (hn : bs.length = n) (hx : n ≤ 1048576) (hi : i ≤ 100) (hz : ∀ z ∈ bs, 0 ≤ z ∧ z ≤ 255) :
    Gives Try.prog 18 #[.slice A n c, .int .i64 i] w (.int .i64 (atV bs i)) := by
  subst hn
  have HZ := hid hz
  clear hz
  by_cases h0 : bs.length = 0
  · have HV := hid (show atV bs i = 0 by unfold atV; rw [if_pos h0])
    (unfold Gives; go_enter Try.func18, Try.ntmps18)
    go_wp2_with fail
    go_ret
    exact ⟨by rw [HV.out]; rfl, by repeat (first | exact Ext.refl _ | refine Ext.alloc ?_ _ | assumption | refine Ext.over ?_ _ | refine Ext.drew ?_ | refine Ext.drewN ?_ _)⟩
  · have hne : ((bs.length : Int) == 0) = false := by rw [beq_eq_false_iff_ne]; omega
    have hlt : (i * 5 + 1) % bs.length < bs.length := Nat.mod_lt _ (by omega)
    obtain ⟨j, hj⟩ : ∃ j, j = (i * 5 + 1) % bs.length := ⟨_, rfl⟩
    rw [← hj] at hlt
    have hmod : ((i : Int) * 5 + 1) % (bs.length : Int) = (j : Int) := by rw [hj, Int.natCast_emod]; rfl
    have HV := hid (show atV bs i = bs[j] by unfold atV; rw [if_neg h0, ← hj, List.getD_eq_getElem?_getD, List.getElem?_eq_getElem hlt]; rfl)
    obtain ⟨b, off, rfl, hc⟩ := hl.at_ (j := j) (by simpa using hlt)
    have hbyte := hc j _ (by rw [List.getElem?_map, List.getElem?_eq_getElem hlt]; rfl)
    have hbz := HZ.out _ (List.getElem_mem hlt)
    generalize bs[j] = y at hbyte hbz HV
    clear hc hj
    (unfold Gives; go_enter Try.func18, Try.ntmps18)
    go_wp2_with fail
    go_ret
    exact ⟨by rw [HV.out]; rfl, by repeat (first | exact Ext.refl _ | refine Ext.alloc ?_ _ | assumption | refine Ext.over ?_ _ | refine Ext.drew ?_ | refine Ext.drewN ?_ _)⟩
end Go.Proofs.Ytkifapcegiajiaa
/- Appending a slice of any length in a drawing region; a list without its k-th element. Conditions: the sizes that Go's own append asks. -/
namespace Go.Proofs.Ytkifapcegiajiaa
open Go.RowKit
section
variable {P : Program} {ops : Array Oper}
/-- append of a slice that reads as these cells, whatever its length. -/
theorem her_pushS (wa : World) {w : World} {o : Oper} {a : Act} {K : Act → World → Prop} (s x : Operand) (t : TypeId)
    (ho : o.op = .call { callee := .builtin .append, args := #[s, x], argTypes := #[t, t] })
    (e : TypeId) {z : Value} {size bytes : Nat} (ht : P.underlying t = some (.slice e)) (hinfo : (P.info? e).map (fun i => (i.zero, i.size, i.bytes)) = some (some z, size, bytes)) (hzs : z.cells.size = size) (hsz : 0 < size)
    (v : Value) (n : Nat) (xs : List Value) (hs : a.eval s = v) (hown : w.ownsRow wa.heap.size e size v n xs) (hea : Ext wa w)
    (B : Option Addr) (m c : Nat) (news : List Value) (hx : a.eval x = .slice B m c) (hBc : B = none → c = 0) (hl : news.length = m * size) (hrow : Row w B news) (h1 : ∀ u ∈ news, u.oneCell' = true)
    (h63 : n + m ≤ 1000000000000) (hby : bytes ≤ 100)
    (h : ∀ A' c' w', w'.ownsRow wa.heap.size e size (.slice A' (n + m) c') (n + m) (xs ++ news) → Ext wa w' → w.grownBy w' v.ownBlock → K (a.put o.dst (.slice A' (n + m) c')) w') : herOp P o a w K := by
  obtain ⟨i, hi, hz0, hz1, hz2⟩ := info_parts hinfo
  cases B with
  | none =>
    have hm : m = 0 := by
      rcases Nat.eq_zero_or_pos m with h0 | h0
      · exact h0
      · have : news ≠ [] := fun e => by subst e; have := Nat.mul_pos h0 hsz; rw [List.length_nil] at hl; omega
        obtain ⟨b, off, h2, _⟩ := hrow this
        cases h2
    subst hm
    obtain rfl := hBc rfl
    have hn0 : news = [] := List.eq_nil_of_length_eq_zero (by omega)
    subst hn0
    obtain ⟨A', c', rfl⟩ := own_form hown
    have hrun := run_append_owned_none (P := P) (w := w) wa.heap.size t o.type e i size ht hi _ n xs hown
    unfold herOp execOp
    simp only [ho, resolve, invoke, builtin, Sem.run_bind, Sem.run_pure, Result.andThen_ok, List.map_toArray, List.map_cons, List.map_nil, hs, hx, hrun]
    have := h A' c' w (by simpa using hown) hea (World.grownBy.refl _ _)
    show K _ _
    simpa using this
  | some ad =>
    have hnews : ∀ j u, news[j]? = some u → w.cell? (ad.add j) = some u := fun j u hu => by
      have hne : news ≠ [] := fun e => by subst e; simp at hu
      obtain ⟨b, off, h2, h3⟩ := hrow hne
      cases h2
      rw [show (⟨b, off, none⟩ : Addr).add j = ⟨b, off + j, none⟩ from by unfold Addr.add; split <;> simp_all]
      exact h3 j u hu
    obtain ⟨v', w', hr, h2, h3, _⟩ := run_append_own (P := P) (w := w) wa.heap.size t o.type e i z size bytes ht hi hz0 hz1 hz2 hzs hsz v n xs hown ad m c news hl hnews h1 (by unfold maxLen; omega) (by have := Nat.mul_le_mul h63 hby; omega) hea.size
    obtain ⟨A', c', rfl⟩ := own_form h2
    unfold herOp execOp
    simp only [ho, resolve, invoke, builtin, Sem.run_bind, Sem.run_pure, Result.andThen_ok, List.map_toArray, List.map_cons, List.map_nil, hs, hx, hr]
    exact h A' c' w' h2 (grown_ext hea hown (Nat.le_refl _) h3) h3
end
/-- A part of a row. -/
theorem row_take {w : World} {A : Option Addr} {cs : List Value} (h : Row w A cs) (k : Nat) : Row w A (cs.take k) := fun hne => by
  have hn : cs ≠ [] := fun e => by subst e; simp at hne
  obtain ⟨b, off, rfl, hc⟩ := h hn
  refine ⟨b, off, rfl, fun j u hu => hc j u ?_⟩
  rw [List.getElem?_take] at hu
  split at hu
  · exact hu
  · cases hu
theorem row_drop {w : World} {b off : Nat} {cs : List Value} (h : Row w (some ⟨b, off, none⟩) cs) (k : Nat) : Row w (some ⟨b, off + k, none⟩) (cs.drop k) := fun hne => by
  have hn : cs ≠ [] := fun e => by subst e; simp at hne
  obtain ⟨b', off', e, hc⟩ := h hn
  cases e
  refine ⟨b, off + k, rfl, fun j u hu => ?_⟩
  rw [List.getElem?_drop] at hu
  have := hc (k + j) u hu
  rwa [← Nat.add_assoc] at this
theorem flat_take {α : Type} (f : α → List Value) (m : Nat) (hm : ∀ a, (f a).length = m) : ∀ (l : List α) (k : Nat), (l.flatMap f).take (k * m) = (l.take k).flatMap f
  | l, 0 => by simp
  | [], k + 1 => by simp
  | a :: l, k + 1 => by
    rw [List.flatMap_cons, List.take_succ_cons, List.flatMap_cons, ← flat_take f m hm l k, Nat.succ_mul, Nat.add_comm, List.take_append, hm a]
    rw [List.take_of_length_le (by rw [hm a]; omega)]
    congr 2; omega
theorem flat_drop {α : Type} (f : α → List Value) (m : Nat) (hm : ∀ a, (f a).length = m) : ∀ (l : List α) (k : Nat), (l.flatMap f).drop (k * m) = (l.drop k).flatMap f
  | l, 0 => by simp
  | [], k + 1 => by simp
  | a :: l, k + 1 => by
    rw [List.flatMap_cons, List.drop_succ_cons, ← flat_drop f m hm l k, Nat.succ_mul, Nat.add_comm, List.drop_append, hm a]
    rw [List.drop_eq_nil_of_le (by rw [hm a]; omega), List.nil_append]
    congr 1; omega
def restN {α : Type} (l : List α) (k : Nat) : List α := l.take k ++ l.drop (k + 1)
theorem restN_len {α : Type} {l : List α} {k : Nat} (h : k < l.length) : (restN l k).length = l.length - 1 := by
  unfold restN; simp; omega
end Go.Proofs.Ytkifapcegiajiaa
