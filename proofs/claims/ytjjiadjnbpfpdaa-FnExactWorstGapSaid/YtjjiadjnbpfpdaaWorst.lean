/- Walks: seenBySome, SeesAll, WatchesAll, WorstGap. Conditions: at most 1048577 corners and points. -/
import Derived.Test.YtjjiadjnbpfpdaaGap
import Derived.Test.YtjjiadjnbpfpdaaFloorS
import Derived.Test.YtjjiadjnbpfpdaaFloorP
namespace Go.Proofs.Ytjjiadjnbpfpdaa
open Go.RowKit
set_option linter.unusedVariables false

def seenAny (L P : List T2) (p : T2) : Bool := !allN P.length (fun k => !seenF L P p k)
theorem seenAny_yes {L P : List T2} {p : T2} {k : Nat} (hk : k < P.length) (h : seenF L P p k = true) : seenAny L P p = true := by
  unfold seenAny; rw [allN_false hk (by rw [h]; rfl)]; rfl
theorem seenAny_no {L P : List T2} {p : T2} (h : ∀ k, k < P.length → seenF L P p k = false) : seenAny L P p = false := by
  unfold seenAny; rw [allN_true fun k hk => by rw [h k hk]; rfl]; rfl
def floorSeen (L P : List T2) : Bool := allN (floorL L).length fun j => seenAny L P (at2 (floorL L) j)
def seesAllR (L P : List T2) : Bool := allIn L P && floorSeen L P
def watchR (L P : List T2) : Bool := patrolR L P && floorSeen L P
theorem watch_all (L P : List T2) : watchR L P = (patrolR L P && seesAllR L P) := by
  unfold watchR seesAllR
  cases h : patrolR L P
  · rfl
  · rw [patrol_in h]; rfl
def gapF (L P : List T2) (j : Nat) : Int := gapZ (idxs (seenF L P (at2 (floorL L) j)) P.length) P.length
def maxF (f : Nat → Int) : Nat → Int
  | 0 => 0
  | k + 1 => max (maxF f k) (f k)
def worstR (L P : List T2) : Int := if watchR L P then maxF (gapF L P) (floorL L).length else -1
theorem idxs_some {q : Nat → Bool} {n : Nat} : (idxs q n).length = 0 ↔ ∀ k, k < n → q k = false := by
  constructor
  · intro h k hk
    cases hq : q k
    · rfl
    · have hm : (k : Int) ∈ idxs q n := idxs_mem.2 ⟨k, rfl, hk, hq⟩
      rw [List.eq_nil_of_length_eq_zero h] at hm
      cases hm
  · intro h
    rcases Nat.eq_zero_or_pos (idxs q n).length with h0 | h0
    · exact h0
    · obtain ⟨j, _, h2, h3⟩ := idxs_mem.1 (List.getElem_mem h0)
      rw [h j h2] at h3; cases h3
theorem gapN_mono (l : List Int) (z : Int) : ∀ k, gapN l z 0 ≤ gapN l z k
  | 0 => Int.le_refl _
  | k + 1 => by have := gapN_mono l z k; simp only [gapN] at *; omega
theorem gap_pos {q : Nat → Bool} {n : Nat} (h : (idxs q n).length ≠ 0) : 1 ≤ gapZ (idxs q n) n := by
  unfold gapZ
  rw [if_neg h]
  have h1 := idxs_bd (p := q) (n := n) (k := 0) (by omega)
  have h2 := idxs_bd (p := q) (n := n) (k := (idxs q n).length - 1) (by omega)
  have h3 := gapN_mono (idxs q n) n ((idxs q n).length - 1)
  simp only [gapN] at h3 h3
  have : gapN (idxs q n) n 0 = atI (idxs q n) 0 + n - atI (idxs q n) ((idxs q n).length - 1) := rfl
  omega
theorem gap_neg {q : Nat → Bool} {n : Nat} : (idxs q n).length = 0 ↔ gapZ (idxs q n) n < 0 := by
  constructor
  · intro h; unfold gapZ; rw [if_pos h]; omega
  · intro h
    rcases Nat.eq_zero_or_pos (idxs q n).length with h0 | h0
    · exact h0
    · have := gap_pos (q := q) (n := n) (by omega); omega
theorem gap_le {q : Nat → Bool} {n : Nat} : -1 ≤ gapZ (idxs q n) n ∧ gapZ (idxs q n) n ≤ 2 * n := by
  rcases Nat.eq_zero_or_pos (idxs q n).length with h0 | h0
  · unfold gapZ; rw [if_pos h0]; omega
  · have h1 := gap_pos (q := q) (n := n) (by omega)
    have h2 := gapN_bd (l := idxs q n) (z := n) (M := n) (by omega) (fun k hk => by have := idxs_bd hk; omega) ((idxs q n).length - 1) (by omega)
    have : gapZ (idxs q n) n = gapN (idxs q n) n ((idxs q n).length - 1) := by unfold gapZ; rw [if_neg (by omega)]
    omega
theorem seen_gap (L P : List T2) (j : Nat) : seenAny L P (at2 (floorL L) j) = decide (0 ≤ gapF L P j) := by
  rw [Bool.eq_iff_iff, decide_eq_true_iff]
  unfold gapF
  constructor
  · intro h
    rcases Int.lt_or_le (gapZ (idxs (seenF L P (at2 (floorL L) j)) P.length) P.length) 0 with h1 | h1
    · have := seenAny_no (idxs_some.1 (gap_neg.2 h1))
      rw [this] at h; cases h
    · exact h1
  · intro h
    cases hs : seenAny L P (at2 (floorL L) j)
    · unfold seenAny at hs
      simp only [Bool.not_eq_false'] at hs
      have : (idxs (seenF L P (at2 (floorL L) j)) P.length).length = 0 := idxs_some.2 fun k hk => by have := allN_iff.1 hs k hk; simpa using this
      have := gap_neg.1 this
      omega
    · rfl
theorem maxF_bd {f : Nat → Int} {M : Int} (hM : 0 ≤ M) : ∀ k, (∀ j, j < k → f j ≤ M) → 0 ≤ maxF f k ∧ maxF f k ≤ M
  | 0, _ => by simp only [maxF]; omega
  | k + 1, h => by
    have ih := maxF_bd (f := f) hM k (fun j hj => h j (by omega))
    have := h k (by omega)
    simp only [maxF]; omega
theorem maxF_ge {f : Nat → Int} : ∀ k j, j < k → f j ≤ maxF f k
  | 0, j, h => by omega
  | k + 1, j, h => by
    simp only [maxF]
    rcases Nat.lt_or_ge j k with h' | h'
    · have := maxF_ge (f := f) k j h'; omega
    · obtain rfl : j = k := by omega
      omega
set_option maxRecDepth 100000 in
set_option maxHeartbeats 1600000 in
theorem bySome_any (A : Option Addr) (n c : Nat) (L : List T2) (B : Option Addr) (m d : Nat) (P : List T2) (p : T2) (w : World) (hl : Row w A (L.flatMap T2.v)) (hn : L.length = n) (hr : Row w B (P.flatMap T2.v)) (hm : P.length = m) (hy : m ≤ 1048577) (hro : roomS L = true) (hP : ∀ k, k < P.length → pokT (at2 P k) = true) (hp : pokT p = true) :
    Gives Try.prog 63 #[.agg #[.slice A n c], .slice B m d, .agg #[.int .i64 p.a, .int .i64 p.b]] w (.bool (seenAny L P p)) := by
  subst hm
  have HL := hid hl
  have HR := hid hr
  have HS := hid (fun k hk w' (h : Row w' A (L.flatMap T2.v)) => iSee_at A n c L (at2 P k) p w' h hn hro (hP k hk) hp)
  clear hl hr hro hP hp
  (unfold Gives; go_enter Try.func63, Try.ntmps63)
  go_wp2_with fail
  obtain ⟨wb, hwb⟩ : ∃ wb, wb = (w.alloc (.cells #[.slice A n c] 30)).alloc (.cells #[.int .i64 p.a, .int .i64 p.b] 39) := ⟨_, rfl⟩
  have hew : Ext w wb := by rw [hwb]; repeat (first | exact Ext.refl _ | refine Ext.alloc ?_ _ | assumption | refine Ext.over ?_ _ | refine Ext.drew ?_ | refine Ext.drewN ?_ _)
  have b0 : wb.cell? ⟨w.heap.size, 0, none⟩ = some (.slice A n c) := by rw [hwb]; go_simp
  have b1 : wb.cell? ⟨w.heap.size + 1, 0, none⟩ = some (.int .i64 p.a) := by rw [hwb]; go_simp
  have b2 : wb.cell? ⟨w.heap.size + 1, 1, none⟩ = some (.int .i64 p.b) := by rw [hwb]; go_simp
  have HT := hid hew
  rw [← hwb]
  generalize w.heap.size = gr at b0 b1 b2 ⊢
  clear hwb hew
  go_loopw [11] (fun kv wr => ∃ (k : Nat), k ≤ P.length ∧ kv = .int .i64 ↑k ∧ (∀ j, j < k → seenF L P p j = false) ∧ Ext wb wr) (fun kv _ => P.length - (intOf kv).toNat)
  case atStart => exact ⟨0, by omega, rfl, by omega, Ext.refl _⟩
  case round =>
    obtain ⟨k, hk, rfl, hall, he⟩ := hrel
    have HA := hid hall
    have HE := hid he
    have HX := hid (HT.out.trans he)
    have r0 := old_cell he b0
    have r1 := old_cell he b1
    have r2 := old_cell he b2
    clear hall he
    by_cases hlt : k < P.length
    · obtain ⟨bk, off, hB, hc⟩ := (HR.out.ext HX.out).t2 hlt
      obtain ⟨c1, c2⟩ := hc k hlt
      have hkt : (k : Int) < P.length := by omega
      have HSS := hid (HS.out k hlt)
      have HYES := hid (fun (h : seesS L (at2 P k) p = true) => seenAny_yes (L := L) (p := p) hlt h)
      have HNO := hid (fun (h : seesS L (at2 P k) p = false) => lt_succ_all (P := fun j => seenF L P p j = false) (k := k) HA.out h)
      subst hB
      clear hc
      generalize at2 P k = g at c1 c2 HSS HYES HNO
      cases hv : seesS L g p
      · have HN := hid (HNO.out hv)
        go_wp2_with (go_at_call 38; refine (gives_b hv (HSS.out _ (HL.out.ext (HX.out.trans (by repeat (first | exact Ext.refl _ | refine Ext.alloc ?_ _ | assumption | refine Ext.over ?_ _ | refine Ext.drew ?_ | refine Ext.drewN ?_ _)))))).over.mono ?_; rintro e w' ⟨rfl, xw, rfl⟩)
        go_roundw
        case rel => exact ⟨k + 1, by omega, by go_num, HN.out, HE.out.trans (by repeat (first | exact Ext.refl _ | refine Ext.alloc ?_ _ | assumption | refine Ext.over ?_ _ | refine Ext.drew ?_ | refine Ext.drewN ?_ _))⟩
        case measure => simp [intOf]; omega
      · have HV := hid (HYES.out hv)
        go_wp2_with (go_at_call 38; refine (gives_b hv (HSS.out _ (HL.out.ext (HX.out.trans (by repeat (first | exact Ext.refl _ | refine Ext.alloc ?_ _ | assumption | refine Ext.over ?_ _ | refine Ext.drew ?_ | refine Ext.drewN ?_ _)))))).over.mono ?_; rintro e w' ⟨rfl, xw, rfl⟩)
        go_ret
        exact ⟨by rw [HV.out]; rfl, HX.out.trans (by repeat (first | exact Ext.refl _ | refine Ext.alloc ?_ _ | assumption | refine Ext.over ?_ _ | refine Ext.drew ?_ | refine Ext.drewN ?_ _))⟩
    · obtain rfl : k = P.length := by omega
      have HV := hid (seenAny_no HA.out)
      go_wp2_with fail
      go_ret
      exact ⟨by rw [HV.out]; rfl, HX.out⟩
theorem floor_pok {L : List T2} (hr : roomS L = true) {k : Nat} (hk : k < (floorL L).length) : pokT (at2 (floorL L) k) = true := (floor_at hr hk).1
set_option maxRecDepth 100000 in
set_option maxHeartbeats 1600000 in
theorem seesAll_any (A : Option Addr) (n c : Nat) (L : List T2) (B : Option Addr) (m d : Nat) (P : List T2) (w : World) (hl : Row w A (L.flatMap T2.v)) (hn : L.length = n) (hx : n ≤ 1048577) (hr : Row w B (P.flatMap T2.v)) (hm : P.length = m) (hy : m ≤ 1048577) : Gives Try.prog 46 #[.agg #[.slice A n c], .slice B m d] w (.bool (seesAllR L P)) := by
  subst hm
  have HL := hid hl
  have HR := hid hr
  clear hl hr
  cases hal : allIn L P
  · have HV := hid (show seesAllR L P = false by unfold seesAllR; rw [hal]; rfl)
    (unfold Gives; go_enter Try.func46, Try.ntmps46)
    go_wp2_with (go_at_call 50; refine (gives_b hal (allIn_any A n c L B P.length d P _ (HL.out.ext (by repeat (first | exact Ext.refl _ | refine Ext.alloc ?_ _ | assumption | refine Ext.over ?_ _ | refine Ext.drew ?_ | refine Ext.drewN ?_ _))) hn hx (HR.out.ext (by repeat (first | exact Ext.refl _ | refine Ext.alloc ?_ _ | assumption | refine Ext.over ?_ _ | refine Ext.drew ?_ | refine Ext.drewN ?_ _))) rfl hy)).over.mono ?_; rintro e w' ⟨rfl, xw, rfl⟩)
    go_ret
    exact ⟨by rw [HV.out]; rfl, by repeat (first | exact Ext.refl _ | refine Ext.alloc ?_ _ | assumption | refine Ext.over ?_ _ | refine Ext.drew ?_ | refine Ext.drewN ?_ _)⟩
  have HV := hid (show seesAllR L P = allN (floorL L).length fun j => seenAny L P (at2 (floorL L) j) by unfold seesAllR; rw [hal]; rfl)
  have hro := allIn_room hal
  have HFO := hid (fun k hk => floor_pok hro (k := k) hk)
  have hfl := floor_len hro
  have HS := hid (fun p (hp : pokT p = true) w' (h : Row w' A (L.flatMap T2.v)) (h' : Row w' B (P.flatMap T2.v)) => bySome_any A n c L B P.length d P p w' h hn h' rfl hy hro (fun k hk => (allIn_at hal hk).1) hp)
  (unfold Gives; go_enter Try.func46, Try.ntmps46)
  go_wp2_with fail
  refine (gives_b hal (allIn_any A n c L B P.length d P _ (HL.out.ext (by repeat (first | exact Ext.refl _ | refine Ext.alloc ?_ _ | assumption | refine Ext.over ?_ _ | refine Ext.drew ?_ | refine Ext.drewN ?_ _))) hn hx (HR.out.ext (by repeat (first | exact Ext.refl _ | refine Ext.alloc ?_ _ | assumption | refine Ext.over ?_ _ | refine Ext.drew ?_ | refine Ext.drewN ?_ _))) rfl hy)).mono ?_
  rintro _ w1 ⟨rfl, e1⟩
  have b0 : w1.cell? ⟨w.heap.size, 0, none⟩ = some (.slice A n c) := old_cell e1 (by go_simp)
  have E1 := hid (Ext.trans (show Ext w _ by repeat (first | exact Ext.refl _ | refine Ext.alloc ?_ _ | assumption | refine Ext.over ?_ _ | refine Ext.drew ?_ | refine Ext.drewN ?_ _)) e1)
  clear e1
  go_wp2_with fail
  refine (floor_any A n c L _ (HL.out.ext E1.out) hn hro).mono ?_
  rintro _ w2 ⟨D, q, c1, rfl, ho, he⟩
  have hq := own_len2 ho
  have b0 := old_cell he b0
  have H1 := hid (E1.out.trans he)
  have HD := hid (Row.of_own ho)
  generalize w.heap.size = gr at b0 ⊢
  generalize hF : floorL L = F at *
  subst hq
  clear ho he hro hal
  go_wp2_with fail
  go_loopw [14] (fun kv wr => ∃ (k : Nat), k ≤ F.length ∧ kv = .int .i64 ↑k ∧ (∀ j, j < k → seenAny L P (at2 F j) = true) ∧ Ext w2 wr) (fun kv _ => F.length - (intOf kv).toNat)
  case atStart => exact ⟨0, by omega, rfl, by omega, Ext.refl _⟩
  case round =>
    obtain ⟨k, hk, rfl, hall, he⟩ := hrel
    have HA := hid hall
    have HE := hid he
    have HX := hid (H1.out.trans he)
    have r0 := old_cell he b0
    clear hall he
    by_cases hlt : k < F.length
    · obtain ⟨blk, off, hB, hc⟩ := (HD.out.ext HE.out).t2 hlt
      obtain ⟨c1, c2⟩ := hc k hlt
      have HM := hid (HS.out (at2 F k) (HFO.out k hlt))
      have HNO := hid (fun (h : seenAny L P (at2 F k) = false) => (show allN F.length (fun j => seenAny L P (at2 F j)) = false from allN_false hlt h))
      have HYES := hid (fun (h : seenAny L P (at2 F k) = true) => lt_succ_all (P := fun j => seenAny L P (at2 F j) = true) (k := k) HA.out h)
      subst hB
      clear hc
      generalize at2 F k = p at c1 c2 HM HNO HYES
      cases hv : seenAny L P p
      · have HV2 := hid (HV.out.trans (HNO.out hv))
        go_wp2_with (go_at_call 63; refine (gives_b hv (HM.out _ (HL.out.ext (HX.out.trans (by repeat (first | exact Ext.refl _ | refine Ext.alloc ?_ _ | assumption | refine Ext.over ?_ _ | refine Ext.drew ?_ | refine Ext.drewN ?_ _)))) (HR.out.ext (HX.out.trans (by repeat (first | exact Ext.refl _ | refine Ext.alloc ?_ _ | assumption | refine Ext.over ?_ _ | refine Ext.drew ?_ | refine Ext.drewN ?_ _)))))).over.mono ?_; rintro e w' ⟨rfl, xw, rfl⟩)
        go_ret
        exact ⟨by rw [HV2.out]; rfl, HX.out.trans (by repeat (first | exact Ext.refl _ | refine Ext.alloc ?_ _ | assumption | refine Ext.over ?_ _ | refine Ext.drew ?_ | refine Ext.drewN ?_ _))⟩
      · have HN := hid (HYES.out hv)
        go_wp2_with (go_at_call 63; refine (gives_b hv (HM.out _ (HL.out.ext (HX.out.trans (by repeat (first | exact Ext.refl _ | refine Ext.alloc ?_ _ | assumption | refine Ext.over ?_ _ | refine Ext.drew ?_ | refine Ext.drewN ?_ _)))) (HR.out.ext (HX.out.trans (by repeat (first | exact Ext.refl _ | refine Ext.alloc ?_ _ | assumption | refine Ext.over ?_ _ | refine Ext.drew ?_ | refine Ext.drewN ?_ _)))))).over.mono ?_; rintro e w' ⟨rfl, xw, rfl⟩)
        go_roundw
        case rel => exact ⟨k + 1, by omega, by go_num, HN.out, HE.out.trans (by repeat (first | exact Ext.refl _ | refine Ext.alloc ?_ _ | assumption | refine Ext.over ?_ _ | refine Ext.drew ?_ | refine Ext.drewN ?_ _))⟩
        case measure => simp [intOf]; omega
    · obtain rfl : k = F.length := by omega
      have HV2 := hid (show seesAllR L P = true by rw [HV.out]; exact allN_true HA.out)
      go_wp2_with fail
      go_ret
      exact ⟨by rw [HV2.out]; rfl, HX.out⟩
set_option maxRecDepth 100000 in
theorem iWatches_any (A : Option Addr) (n c : Nat) (L : List T2) (B : Option Addr) (m d : Nat) (P : List T2) (w : World) (hl : Row w A (L.flatMap T2.v)) (hn : L.length = n) (hx : n ≤ 1048577) (hr : Row w B (P.flatMap T2.v)) (hm : P.length = m) (hy : m ≤ 1048577) : Gives Try.prog 28 #[.agg #[.slice A n c], .slice B m d] w (.bool (watchR L P)) := by
  have HL := hid hl
  have HR := hid hr
  clear hl hr
  rw [watch_all]
  cases hp : patrolR L P
  all_goals
    (unfold Gives; go_enter Try.func28, Try.ntmps28)
    go_wp2_with (first | (go_at_call 14; refine (gives_b hp (iPatrol_any A n c L B m d P _ (HL.out.ext (by repeat (first | exact Ext.refl _ | refine Ext.alloc ?_ _ | assumption | refine Ext.over ?_ _ | refine Ext.drew ?_ | refine Ext.drewN ?_ _))) hn hx (HR.out.ext (by repeat (first | exact Ext.refl _ | refine Ext.alloc ?_ _ | assumption | refine Ext.over ?_ _ | refine Ext.drew ?_ | refine Ext.drewN ?_ _))) hm hy)).over.mono ?_; rintro e w' ⟨rfl, xw, rfl⟩) | (go_at_call 46; refine (seesAll_any A n c L B m d P _ (HL.out.ext (by repeat (first | exact Ext.refl _ | refine Ext.alloc ?_ _ | assumption | refine Ext.over ?_ _ | refine Ext.drew ?_ | refine Ext.drewN ?_ _))) hn hx (HR.out.ext (by repeat (first | exact Ext.refl _ | refine Ext.alloc ?_ _ | assumption | refine Ext.over ?_ _ | refine Ext.drew ?_ | refine Ext.drewN ?_ _))) hm hy).over.mono ?_; rintro e w' ⟨rfl, xw, rfl⟩))
    go_ret
    exact ⟨rfl, by repeat (first | exact Ext.refl _ | refine Ext.alloc ?_ _ | assumption | refine Ext.over ?_ _ | refine Ext.drew ?_ | refine Ext.drewN ?_ _)⟩
theorem patrol_room {L P : List T2} (h : patrolR L P = true) : roomS L = true := allIn_room (patrol_in h)
theorem gapF_40 {L P : List T2} (h : P.length ≤ 40) (j : Nat) : -1 ≤ gapF L P j ∧ gapF L P j ≤ 80 := by
  have := gap_le (q := seenF L P (at2 (floorL L) j)) (n := P.length)
  unfold gapF; omega
set_option maxRecDepth 100000 in
set_option maxHeartbeats 1600000 in
theorem iWorst_any (A : Option Addr) (n c : Nat) (L : List T2) (B : Option Addr) (m d : Nat) (P : List T2) (w : World) (hl : Row w A (L.flatMap T2.v)) (hn : L.length = n) (hx : n ≤ 1048577) (hr : Row w B (P.flatMap T2.v)) (hm : P.length = m) (hy : m ≤ 1048577) : Gives Try.prog 30 #[.agg #[.slice A n c], .slice B m d] w (.int .i64 (worstR L P)) := by
  subst hm
  have HL := hid hl
  have HR := hid hr
  clear hl hr
  cases hw : watchR L P
  · have HV := hid (show worstR L P = -1 by unfold worstR; rw [hw]; rfl)
    (unfold Gives; go_enter Try.func30, Try.ntmps30)
    go_wp2_with (go_at_call 28; refine (gives_b hw (iWatches_any A n c L B P.length d P _ (HL.out.ext (by repeat (first | exact Ext.refl _ | refine Ext.alloc ?_ _ | assumption | refine Ext.over ?_ _ | refine Ext.drew ?_ | refine Ext.drewN ?_ _))) hn hx (HR.out.ext (by repeat (first | exact Ext.refl _ | refine Ext.alloc ?_ _ | assumption | refine Ext.over ?_ _ | refine Ext.drew ?_ | refine Ext.drewN ?_ _))) rfl hy)).over.mono ?_; rintro e w' ⟨rfl, xw, rfl⟩)
    go_ret
    exact ⟨by rw [HV.out]; rfl, by repeat (first | exact Ext.refl _ | refine Ext.alloc ?_ _ | assumption | refine Ext.over ?_ _ | refine Ext.drew ?_ | refine Ext.drewN ?_ _)⟩
  have hpo : patrolR L P = true := by unfold watchR at hw; simp only [Bool.and_eq_true] at hw; exact hw.1
  have hro := patrol_room hpo
  have h40 := patrol_len hpo
  have HV := hid (show worstR L P = maxF (gapF L P) (floorL L).length by unfold worstR; rw [hw]; rfl)
  have HFO := hid (fun k hk => floor_pok hro (k := k) hk)
  have hfl := floor_len hro
  have HG := hid (fun j => gapF_40 (L := L) h40.2 j)
  have HMX := hid (fun k => maxF_bd (f := gapF L P) (M := 80) (by omega) k (fun j _ => (HG.out j).2))
  have HS := hid (fun p (hp : pokT p = true) w' (h : Row w' A (L.flatMap T2.v)) (h' : Row w' B (P.flatMap T2.v)) => iSeen_any A n c L B P.length d P p w' h hn h' rfl hy hro (fun k hk => (allIn_at (patrol_in hpo) hk).1) hp)
  have HZ := hid (show (0 : Int) ≤ P.length ∧ (P.length : Int) ≤ 1048577 by omega)
  have HB := hid (fun (q : Nat → Bool) k (hk : k < (idxs q P.length).length) => (show 0 ≤ atI (idxs q P.length) k ∧ atI (idxs q P.length) k ≤ 1048577 by have := idxs_bd hk; omega))
  have HLN := hid (fun (q : Nat → Bool) => idxs_len q P.length)
  (unfold Gives; go_enter Try.func30, Try.ntmps30)
  go_wp2_with fail
  refine (gives_b hw (iWatches_any A n c L B P.length d P _ (HL.out.ext (by repeat (first | exact Ext.refl _ | refine Ext.alloc ?_ _ | assumption | refine Ext.over ?_ _ | refine Ext.drew ?_ | refine Ext.drewN ?_ _))) hn hx (HR.out.ext (by repeat (first | exact Ext.refl _ | refine Ext.alloc ?_ _ | assumption | refine Ext.over ?_ _ | refine Ext.drew ?_ | refine Ext.drewN ?_ _))) rfl hy)).mono ?_
  rintro _ w1 ⟨rfl, e1⟩
  have b0 : w1.cell? ⟨w.heap.size, 0, none⟩ = some (.slice A n c) := old_cell e1 (by go_simp)
  have E1 := hid (Ext.trans (show Ext w _ by repeat (first | exact Ext.refl _ | refine Ext.alloc ?_ _ | assumption | refine Ext.over ?_ _ | refine Ext.drew ?_ | refine Ext.drewN ?_ _)) e1)
  clear e1
  go_wp2_with fail
  refine (floor_any A n c L _ (HL.out.ext E1.out) hn hro).mono ?_
  rintro _ w2 ⟨D, q, c1, rfl, ho, he⟩
  have hq := own_len2 ho
  have b0 := old_cell he b0
  have H1 := hid (E1.out.trans he)
  have HD := hid (Row.of_own ho)
  have HGF := hid (fun j => (show gapF L P j = gapZ (idxs (seenF L P (at2 (floorL L) j)) P.length) P.length from rfl))
  generalize w.heap.size = gr at b0 ⊢
  generalize hF : floorL L = F at *
  generalize hgf : gapF L P = gf at *
  subst hq
  clear ho he hro hw hpo
  go_wp2_with fail
  go_loopw [5, 15] (fun mv kv wr => ∃ (k : Nat), k ≤ F.length ∧ kv = .int .i64 ↑k ∧ mv = .int .i64 (maxF gf k) ∧ Ext w2 wr) (fun _ kv _ => F.length - (intOf kv).toNat)
  case atStart => exact ⟨0, by omega, rfl, rfl, Ext.refl _⟩
  case round =>
    obtain ⟨k, hk, rfl, rfl, he⟩ := hrel
    have HE := hid he
    have HX := hid (H1.out.trans he)
    have r0 := old_cell he b0
    clear he
    by_cases hlt : k < F.length
    · obtain ⟨blk, off, hB, hc⟩ := (HD.out.ext HE.out).t2 hlt
      obtain ⟨c1, c2⟩ := hc k hlt
      have HM := hid (HS.out (at2 F k) (HFO.out k hlt))
      have HGK := hid (HGF.out k)
      have hg := HG.out k
      have hmx := HMX.out k
      have HST := hid (show maxF gf (k + 1) = max (maxF gf k) (gf k) from rfl)
      have HB2 := hid (HB.out (seenF L P (at2 F k)))
      have hln := HLN.out (seenF L P (at2 F k))
      subst hB
      clear hc
      generalize maxF gf k = mx at hmx HST ⊢
      generalize gf k = g at hg HST HGK
      generalize at2 F k = p at c1 c2 HM HGK HB2 hln
      go_wp2_with fail
      refine (HM.out _ (HL.out.ext (HX.out.trans (by repeat (first | exact Ext.refl _ | refine Ext.alloc ?_ _ | assumption | refine Ext.over ?_ _ | refine Ext.drew ?_ | refine Ext.drewN ?_ _)))) (HR.out.ext (HX.out.trans (by repeat (first | exact Ext.refl _ | refine Ext.alloc ?_ _ | assumption | refine Ext.over ?_ _ | refine Ext.drew ?_ | refine Ext.drewN ?_ _))))).mono ?_
      rintro _ w3 ⟨A3, m3, c3, rfl, ho, he⟩
      have hm3 := own_len1S ho
      have HE3 := hid (HE.out.trans (Ext.trans (by repeat (first | exact Ext.refl _ | refine Ext.alloc ?_ _ | assumption | refine Ext.over ?_ _ | refine Ext.drew ?_ | refine Ext.drewN ?_ _)) he))
      have HO3 := hid (Row.of_own ho)
      generalize idxs (seenF L P p) P.length = l at *
      subst hm3
      clear ho he
      go_wp2_with (go_at_call 41; refine (gives_v HGK.out.symm (gapOf_any A3 l.length c3 l P.length _ (HO3.out.ext (by repeat (first | exact Ext.refl _ | refine Ext.alloc ?_ _ | assumption | refine Ext.over ?_ _ | refine Ext.drew ?_ | refine Ext.drewN ?_ _))) rfl (by omega) HB2.out HZ.out)).over.mono ?_; rintro e w' ⟨rfl, xw, rfl⟩)
      go_roundw
      case rel => exact ⟨k + 1, by omega, by go_num, by rw [HST.out]; congr 1; first | omega | (split <;> omega), HE3.out.trans (by repeat (first | exact Ext.refl _ | refine Ext.alloc ?_ _ | assumption | refine Ext.over ?_ _ | refine Ext.drew ?_ | refine Ext.drewN ?_ _))⟩
      case measure => simp [intOf]; omega
    · obtain rfl : k = F.length := by omega
      go_wp2_with fail
      go_ret
      exact ⟨by rw [HV.out]; rfl, HX.out⟩
theorem worst_no {L P : List T2} {j : Nat} (hj : j < (floorL L).length) (h : gapF L P j < 0) : worstR L P = -1 := by
  unfold worstR watchR floorSeen
  rw [allN_false hj (by rw [seen_gap, decide_eq_false (by omega)]), Bool.and_false]
  rfl
set_option maxRecDepth 100000 in
set_option maxHeartbeats 1600000 in
theorem sWorst_any (A : Option Addr) (n c : Nat) (L : List T2) (B : Option Addr) (m d : Nat) (P : List T2) (w : World) (hl : Row w A (L.flatMap T2.v)) (hn : L.length = n) (hx : n ≤ 1048577) (hr : Row w B (P.flatMap T2.v)) (hm : P.length = m) (hy : m ≤ 1048577) : Gives Try.prog 29 #[.agg #[.slice A n c], .slice B m d] w (.int .i64 (worstR L P)) := by
  subst hm
  have HL := hid hl
  have HR := hid hr
  clear hl hr
  cases hpo : patrolR L P
  · have HV := hid (show worstR L P = -1 by unfold worstR watchR; rw [hpo]; rfl)
    (unfold Gives; go_enter Try.func29, Try.ntmps29)
    go_wp2_with (go_at_call 11; refine (gives_b hpo (sPatrol_any A n c L B P.length d P _ (HL.out.ext (by repeat (first | exact Ext.refl _ | refine Ext.alloc ?_ _ | assumption | refine Ext.over ?_ _ | refine Ext.drew ?_ | refine Ext.drewN ?_ _))) hn hx (HR.out.ext (by repeat (first | exact Ext.refl _ | refine Ext.alloc ?_ _ | assumption | refine Ext.over ?_ _ | refine Ext.drew ?_ | refine Ext.drewN ?_ _))) rfl hy)).over.mono ?_; rintro e w' ⟨rfl, xw, rfl⟩)
    go_ret
    exact ⟨by rw [HV.out]; rfl, by repeat (first | exact Ext.refl _ | refine Ext.alloc ?_ _ | assumption | refine Ext.over ?_ _ | refine Ext.drew ?_ | refine Ext.drewN ?_ _)⟩
  have hro := patrol_room hpo
  have h40 := patrol_len hpo
  have HVY := hid (fun (h : ∀ j, j < (floorL L).length → 0 ≤ gapF L P j) => (show worstR L P = maxF (gapF L P) (floorL L).length by
    unfold worstR watchR floorSeen
    rw [hpo, allN_true (fun j hj => by rw [seen_gap, decide_eq_true (h j hj)])]; rfl))
  have HVN := hid (fun j (hj : j < (floorL L).length) (h : gapF L P j < 0) => worst_no hj h)
  have HFO := hid (fun k hk => floor_pok hro (k := k) hk)
  have HFR := hid (show floorR L = floorL L by unfold floorR; rw [hro]; rfl)
  have hfl := floor_len hro
  have HG := hid (fun j => gapF_40 (L := L) h40.2 j)
  have HMX := hid (fun k => maxF_bd (f := gapF L P) (M := 80) (by omega) k (fun j _ => (HG.out j).2))
  have HS := hid (fun p (hp : pokT p = true) w' (h : Row w' A (L.flatMap T2.v)) (h' : Row w' B (P.flatMap T2.v)) => sSeen_any A n c L B P.length d P p w' h hn h' rfl hy hro (fun k hk => (allIn_at (patrol_in hpo) hk).1) hp)
  have HZ := hid (show (0 : Int) ≤ P.length ∧ (P.length : Int) ≤ 1048577 by omega)
  have HB := hid (fun (q : Nat → Bool) k (hk : k < (idxs q P.length).length) => (show 0 ≤ atI (idxs q P.length) k ∧ atI (idxs q P.length) k ≤ 1048577 by have := idxs_bd hk; omega))
  have HLN := hid (fun (q : Nat → Bool) => idxs_len q P.length)
  (unfold Gives; go_enter Try.func29, Try.ntmps29)
  go_wp2_with fail
  refine (gives_b hpo (sPatrol_any A n c L B P.length d P _ (HL.out.ext (by repeat (first | exact Ext.refl _ | refine Ext.alloc ?_ _ | assumption | refine Ext.over ?_ _ | refine Ext.drew ?_ | refine Ext.drewN ?_ _))) hn hx (HR.out.ext (by repeat (first | exact Ext.refl _ | refine Ext.alloc ?_ _ | assumption | refine Ext.over ?_ _ | refine Ext.drew ?_ | refine Ext.drewN ?_ _))) rfl hy)).mono ?_
  rintro _ w1 ⟨rfl, e1⟩
  have b0 : w1.cell? ⟨w.heap.size, 0, none⟩ = some (.slice A n c) := old_cell e1 (by go_simp)
  have E1 := hid (Ext.trans (show Ext w _ by repeat (first | exact Ext.refl _ | refine Ext.alloc ?_ _ | assumption | refine Ext.over ?_ _ | refine Ext.drew ?_ | refine Ext.drewN ?_ _)) e1)
  clear e1
  go_wp2_with fail
  refine (sFloor_any A n c L w1 (HL.out.ext E1.out) hn hx).mono ?_
  rintro _ w2 ⟨D, q, c1, rfl, ho, he⟩
  rw [HFR.out] at ho
  have hq := own_len2 ho
  have b0 := old_cell he b0
  have H1 := hid (E1.out.trans he)
  have HD := hid (Row.of_own ho)
  have HGF := hid (fun j => (show gapF L P j = gapZ (idxs (seenF L P (at2 (floorL L) j)) P.length) P.length from rfl))
  generalize w.heap.size = gr at b0 ⊢
  generalize hF : floorL L = F at *
  generalize hgf : gapF L P = gf at *
  subst hq
  clear ho he hro hpo
  go_wp2_with fail
  go_loopw [5, 7] (fun mv kv wr => ∃ (k : Nat), k ≤ F.length ∧ kv = .int .i64 ↑k ∧ mv = .int .i64 (maxF gf k) ∧ (∀ j, j < k → 0 ≤ gf j) ∧ Ext w2 wr) (fun _ kv _ => F.length - (intOf kv).toNat)
  case atStart => exact ⟨0, by omega, rfl, rfl, by omega, Ext.refl _⟩
  case round =>
    obtain ⟨k, hk, rfl, rfl, hall, he⟩ := hrel
    have HA := hid hall
    have HE := hid he
    have HX := hid (H1.out.trans he)
    have r0 := old_cell he b0
    clear he hall
    by_cases hlt : k < F.length
    · obtain ⟨blk, off, hB, hc⟩ := (HD.out.ext HE.out).t2 hlt
      obtain ⟨c1, c2⟩ := hc k hlt
      have hkt : (k : Int) < F.length := by omega
      have HM := hid (HS.out (at2 F k) (HFO.out k hlt))
      have HGK := hid (HGF.out k)
      have hg := HG.out k
      have hmx := HMX.out k
      have HST := hid (show maxF gf (k + 1) = max (maxF gf k) (gf k) from rfl)
      have HB2 := hid (HB.out (seenF L P (at2 F k)))
      have hln := HLN.out (seenF L P (at2 F k))
      have HNO := hid (HVN.out k hlt)
      have HAL := hid (fun (h : 0 ≤ gf k) => lt_succ_all (P := fun j => 0 ≤ gf j) (k := k) HA.out h)
      subst hB
      clear hc
      generalize maxF gf k = mx at hmx HST ⊢
      generalize gf k = g at hg HST HGK HNO HAL
      generalize at2 F k = p at c1 c2 HM HGK HB2 hln
      go_wp2_with fail
      refine wp_region_x [.q 0, .q 1, .q 2, .q 3, .q 4, .q 5, .q 7, .q 8, .u 6, .u 9, .u 10] (by kernel_rfl) (by kernel_rfl) (fun w3 e3 => ?_)
      have E3 := hid (HX.out.trans e3)
      have HE3 := hid (HE.out.trans e3)
      have r0 := old_cell e3 r0
      have c1 := old_cell e3 c1
      have c2 := old_cell e3 c2
      clear e3
      simp only [pick, List.getElem?_cons_succ, List.getElem?_cons_zero]
      repeat (refine wpZ_q (fun K hK => ?_); go_simp; refine hK _ ?_; clear hK K)
      refine wpZ_u ?_
      refine stepH_of (fun K hK => ?_)
      go_simp
      refine (HM.out w3 (HL.out.ext E3.out) (HR.out.ext E3.out)).mono ?_
      rintro _ w4 ⟨A3, m3, c3, rfl, ho, he⟩
      have hm3 := own_len1S ho
      have HO3 := hid (Row.of_own ho)
      refine ⟨_, rfl, hK _ _ he ?_⟩; clear hK K
      have HE4 := hid (HE3.out.trans he)
      have HSZ := hid he.size
      generalize idxs (seenF L P p) P.length = l at *
      subst hm3
      clear ho he
      refine wpZ_u ?_
      refine stepH_of (fun K hK => ?_)
      go_simp
      refine (gives_v HGK.out.symm (l22Gap_any A3 l.length c3 l P.length _ HO3.out rfl (by omega) HB2.out HZ.out)).mono ?_
      rintro _ w5 ⟨rfl, e5⟩
      refine ⟨_, rfl, hK _ _ (ext_below e5 HSZ.out) ?_⟩; clear hK K
      have HE5 := hid (HE4.out.trans e5)
      clear e5
      ((first | refine wpZ_u ?_ | skip); refine stepH_of (fun K hK => ?_); go_simp; refine hK _ _ (Below.refl _ _) ?_; clear hK K)
      refine wpZ_nil ?_
      by_cases hneg : g < 0
      · have HV := hid (HNO.out hneg)
        go_wp2_with fail
        go_ret
        exact ⟨by rw [HV.out]; rfl, H1.out.trans HE5.out⟩
      · have HN := hid (HAL.out (by omega))
        go_wp2_with fail
        go_roundw
        case rel => exact ⟨k + 1, by omega, by go_num, by rw [HST.out]; congr 1; first | omega | (split <;> omega), HN.out, HE5.out.trans (by repeat (first | exact Ext.refl _ | refine Ext.alloc ?_ _ | assumption | refine Ext.over ?_ _ | refine Ext.drew ?_ | refine Ext.drewN ?_ _))⟩
        case measure => simp [intOf]; omega
    · obtain rfl : k = F.length := by omega
      have HV := hid (HVY.out HA.out)
      go_wp2_with fail
      go_ret
      exact ⟨by rw [HV.out]; rfl, HX.out⟩
theorem floor_ne {L : List T2} (hr : roomS L = true) : 0 < (floorL L).length := List.length_pos_of_mem (corner_floor hr (k := 0) (by have := (roomP_of hr).lo; omega))
theorem worst_pos (L P : List T2) : watchR L P = decide (0 < worstR L P) := by
  unfold worstR
  cases h : watchR L P
  · rw [if_neg (by simp)]; rfl
  · rw [if_pos rfl]
    unfold watchR at h
    simp only [Bool.and_eq_true] at h
    have h0 := floor_ne (patrol_room h.1)
    have h1 := allN_iff.1 h.2 0 h0
    rw [seen_gap, decide_eq_true_iff] at h1
    have h2 := maxF_ge (f := gapF L P) _ 0 h0
    have h3 : (idxs (seenF L P (at2 (floorL L) 0)) P.length).length ≠ 0 := fun e => by have := gap_neg.1 e; unfold gapF at h1; omega
    have h4 := gap_pos h3
    have h5 : gapF L P 0 = gapZ (idxs (seenF L P (at2 (floorL L) 0)) P.length) P.length := rfl
    rw [decide_eq_true (by omega)]
set_option maxRecDepth 100000 in
theorem sWatches_any (A : Option Addr) (n c : Nat) (L : List T2) (B : Option Addr) (m d : Nat) (P : List T2) (w : World) (hl : Row w A (L.flatMap T2.v)) (hn : L.length = n) (hx : n ≤ 1048577) (hr : Row w B (P.flatMap T2.v)) (hm : P.length = m) (hy : m ≤ 1048577) : Gives Try.prog 27 #[.agg #[.slice A n c], .slice B m d] w (.bool (watchR L P)) := by
  have HL := hid hl
  have HR := hid hr
  clear hl hr
  rw [worst_pos]
  (unfold Gives; go_enter Try.func27, Try.ntmps27)
  go_wp2_with (go_at_call 29; refine (sWorst_any A n c L B m d P _ (HL.out.ext (by repeat (first | exact Ext.refl _ | refine Ext.alloc ?_ _ | assumption | refine Ext.over ?_ _ | refine Ext.drew ?_ | refine Ext.drewN ?_ _))) hn hx (HR.out.ext (by repeat (first | exact Ext.refl _ | refine Ext.alloc ?_ _ | assumption | refine Ext.over ?_ _ | refine Ext.drew ?_ | refine Ext.drewN ?_ _))) hm hy).over.mono ?_; rintro e w' ⟨rfl, xw, rfl⟩)
  go_ret
  exact ⟨rfl, by repeat (first | exact Ext.refl _ | refine Ext.alloc ?_ _ | assumption | refine Ext.over ?_ _ | refine Ext.drew ?_ | refine Ext.drewN ?_ _)⟩
end Go.Proofs.Ytjjiadjnbpfpdaa
