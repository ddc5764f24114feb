/- Walks: points in rooms. Conditions: at most 1048577 corners. -/
import Derived.Test.YtkifapcegiajiaaRoomS
import Derived.Test.YtkifapcegiajiaaHolds
namespace Go.Proofs.Ytkifapcegiajiaa
open Go.RowKit
set_option linter.unusedVariables false

theorem iRoom_any (A : Option Addr) (n c : Nat) (L : List T2) (w : World) (hl : Row w A (L.flatMap T2.v)) (hn : L.length = n) (hx : n ≤ 1048577) : Gives Try.prog 54 #[.agg #[.slice A n c]] w (.bool (roomS L)) := by
  rw [← room_eq]; exact iRoomOk_any A n c L w hl hn hx
def placeIn (L : List T2) (p : T2) : Int := if roomS L && pokT p then placeI L p else 0
def isIn (L : List T2) (p : T2) : Bool := !(placeIn L p == 0)
theorem placeIn_room {L : List T2} {p : T2} (h : roomS L = false) : placeIn L p = 0 := by unfold placeIn; rw [h]; rfl
theorem placeIn_pok {L : List T2} {p : T2} (h : pokT p = false) : placeIn L p = 0 := by unfold placeIn; rw [h]; simp
theorem placeIn_ok {L : List T2} {p : T2} (h : roomS L = true) (hp : pokT p = true) : placeIn L p = placeI L p := by unfold placeIn; rw [h, hp]; rfl
theorem iPlaceIn_any (A : Option Addr) (n c : Nat) (L : List T2) (p : T2) (w : World) (hl : Row w A (L.flatMap T2.v)) (hn : L.length = n) (hx : n ≤ 1048577) : Gives Try.prog 79 #[.agg #[.slice A n c], ptV p] w (.int .i64 (placeIn L p)) := by
  unfold ptV
  cases h1 : pok p.a p.b
  · have HC := hid (placeIn_pok (L := L) (p := p) h1)
    (unfold Gives; go_enter Try.func79, Try.ntmps79)
    go_wp2_with (go_at_call 61; refine (gives_b h1 (iPointOk_any _ _ _)).over.mono ?_; rintro e w' ⟨rfl, xw, rfl⟩)
    go_ret
    exact ⟨by rw [HC.out]; rfl, by repeat (first | exact Ext.refl _ | refine Ext.alloc ?_ _ | assumption | refine Ext.over ?_ _ | refine Ext.drew ?_ | refine Ext.drewN ?_ _)⟩
  cases h2 : roomS L
  · have HC := hid (placeIn_room (p := p) h2)
    (unfold Gives; go_enter Try.func79, Try.ntmps79)
    go_wp2_with (first | (go_at_call 61; refine (gives_b h1 (iPointOk_any _ _ _)).over.mono ?_; rintro e w' ⟨rfl, xw, rfl⟩) | (go_at_call 54; refine (gives_b h2 (iRoom_any A n c L _ (hl.ext (by repeat (first | exact Ext.refl _ | refine Ext.alloc ?_ _ | assumption | refine Ext.over ?_ _ | refine Ext.drew ?_ | refine Ext.drewN ?_ _))) hn hx)).over.mono ?_; rintro e w' ⟨rfl, xw, rfl⟩))
    go_ret
    exact ⟨by rw [HC.out]; rfl, by repeat (first | exact Ext.refl _ | refine Ext.alloc ?_ _ | assumption | refine Ext.over ?_ _ | refine Ext.drew ?_ | refine Ext.drewN ?_ _)⟩
  · have HC := hid (placeIn_ok h2 (p := p) h1)
    (unfold Gives; go_enter Try.func79, Try.ntmps79)
    go_wp2_with (first | (go_at_call 61; refine (gives_b h1 (iPointOk_any _ _ _)).over.mono ?_; rintro e w' ⟨rfl, xw, rfl⟩) | (go_at_call 54; refine (gives_b h2 (iRoom_any A n c L _ (hl.ext (by repeat (first | exact Ext.refl _ | refine Ext.alloc ?_ _ | assumption | refine Ext.over ?_ _ | refine Ext.drew ?_ | refine Ext.drewN ?_ _))) hn hx)).over.mono ?_; rintro e w' ⟨rfl, xw, rfl⟩) | (go_at_call 62; refine (place_any A n c L p _ (hl.ext (by repeat (first | exact Ext.refl _ | refine Ext.alloc ?_ _ | assumption | refine Ext.over ?_ _ | refine Ext.drew ?_ | refine Ext.drewN ?_ _))) hn hx).over.mono ?_; rintro e w' ⟨rfl, xw, rfl⟩))
    go_ret
    exact ⟨by rw [HC.out]; rfl, by repeat (first | exact Ext.refl _ | refine Ext.alloc ?_ _ | assumption | refine Ext.over ?_ _ | refine Ext.drew ?_ | refine Ext.drewN ?_ _)⟩
theorem roomS_small {L : List T2} (h : roomS L = true) (j : Nat) (hj : j < L.length) : small (at2 L j) := (roomP_of h).small j hj
theorem sPlaceIn_any (A : Option Addr) (n c : Nat) (L : List T2) (p : T2) (w : World) (hl : Row w A (L.flatMap T2.v)) (hn : L.length = n) (hx : n ≤ 1048577) : Gives Try.prog 56 #[.agg #[.slice A n c], ptV p] w (.int .i64 (placeIn L p)) := by
  unfold ptV
  cases h2 : roomS L
  · have HC := hid (placeIn_room (p := p) h2)
    (unfold Gives; go_enter Try.func56, Try.ntmps56)
    go_wp2_with (go_at_call 45; refine (gives_b h2 (sRoomOk_any A n c L _ (hl.ext (by repeat (first | exact Ext.refl _ | refine Ext.alloc ?_ _ | assumption | refine Ext.over ?_ _ | refine Ext.drew ?_ | refine Ext.drewN ?_ _))) hn hx)).over.mono ?_; rintro e w' ⟨rfl, xw, rfl⟩)
    go_ret
    exact ⟨by rw [HC.out]; rfl, by repeat (first | exact Ext.refl _ | refine Ext.alloc ?_ _ | assumption | refine Ext.over ?_ _ | refine Ext.drew ?_ | refine Ext.drewN ?_ _)⟩
  cases h1 : pok p.a p.b
  · have HC := hid (placeIn_pok (L := L) (p := p) h1)
    (unfold Gives; go_enter Try.func56, Try.ntmps56)
    go_wp2_with (first | (go_at_call 45; refine (gives_b h2 (sRoomOk_any A n c L _ (hl.ext (by repeat (first | exact Ext.refl _ | refine Ext.alloc ?_ _ | assumption | refine Ext.over ?_ _ | refine Ext.drew ?_ | refine Ext.drewN ?_ _))) hn hx)).over.mono ?_; rintro e w' ⟨rfl, xw, rfl⟩) | (go_at_call 75; refine (gives_b h1 (sPointOk_any _ _ _)).over.mono ?_; rintro e w' ⟨rfl, xw, rfl⟩))
    go_ret
    exact ⟨by rw [HC.out]; rfl, by repeat (first | exact Ext.refl _ | refine Ext.alloc ?_ _ | assumption | refine Ext.over ?_ _ | refine Ext.drew ?_ | refine Ext.drewN ?_ _)⟩
  · have HC := hid ((placeIn_ok h2 (p := p) h1).trans (place_holds (roomS_small h2) (small_pok h1)))
    rcases holds_range L p with h3 | h3 | h3
    all_goals
      (unfold Gives; go_enter Try.func56, Try.ntmps56)
      go_wp2_with (first | (go_at_call 45; refine (gives_b h2 (sRoomOk_any A n c L _ (hl.ext (by repeat (first | exact Ext.refl _ | refine Ext.alloc ?_ _ | assumption | refine Ext.over ?_ _ | refine Ext.drew ?_ | refine Ext.drewN ?_ _))) hn hx)).over.mono ?_; rintro e w' ⟨rfl, xw, rfl⟩) | (go_at_call 75; refine (gives_b h1 (sPointOk_any _ _ _)).over.mono ?_; rintro e w' ⟨rfl, xw, rfl⟩) | (go_at_call 46; refine (gives_v h3 (holds_any A n c L p _ (hl.ext (by repeat (first | exact Ext.refl _ | refine Ext.alloc ?_ _ | assumption | refine Ext.over ?_ _ | refine Ext.drew ?_ | refine Ext.drewN ?_ _))) hn hx)).over.mono ?_; rintro e w' ⟨rfl, xw, rfl⟩))
      go_ret
      exact ⟨by rw [HC.out, h3]; rfl, by repeat (first | exact Ext.refl _ | refine Ext.alloc ?_ _ | assumption | refine Ext.over ?_ _ | refine Ext.drew ?_ | refine Ext.drewN ?_ _)⟩
theorem iIsIn_any (A : Option Addr) (n c : Nat) (L : List T2) (p : T2) (w : World) (hl : Row w A (L.flatMap T2.v)) (hn : L.length = n) (hx : n ≤ 1048577) : Gives Try.prog 51 #[.agg #[.slice A n c], ptV p] w (.bool (isIn L p)) := by
  unfold ptV isIn
  (unfold Gives; go_enter Try.func51, Try.ntmps51)
  go_wp2_with (go_at_call 79; refine (iPlaceIn_any A n c L p _ (hl.ext (by repeat (first | exact Ext.refl _ | refine Ext.alloc ?_ _ | assumption | refine Ext.over ?_ _ | refine Ext.drew ?_ | refine Ext.drewN ?_ _))) hn hx).over.mono ?_; rintro e w' ⟨rfl, xw, rfl⟩)
  go_ret
  exact ⟨rfl, by repeat (first | exact Ext.refl _ | refine Ext.alloc ?_ _ | assumption | refine Ext.over ?_ _ | refine Ext.drew ?_ | refine Ext.drewN ?_ _)⟩
theorem sIsIn_any (A : Option Addr) (n c : Nat) (L : List T2) (p : T2) (w : World) (hl : Row w A (L.flatMap T2.v)) (hn : L.length = n) (hx : n ≤ 1048577) : Gives Try.prog 33 #[.agg #[.slice A n c], ptV p] w (.bool (isIn L p)) := by
  unfold ptV isIn
  (unfold Gives; go_enter Try.func33, Try.ntmps33)
  go_wp2_with (go_at_call 56; refine (sPlaceIn_any A n c L p _ (hl.ext (by repeat (first | exact Ext.refl _ | refine Ext.alloc ?_ _ | assumption | refine Ext.over ?_ _ | refine Ext.drew ?_ | refine Ext.drewN ?_ _))) hn hx).over.mono ?_; rintro e w' ⟨rfl, xw, rfl⟩)
  go_ret
  exact ⟨rfl, by repeat (first | exact Ext.refl _ | refine Ext.alloc ?_ _ | assumption | refine Ext.over ?_ _ | refine Ext.drew ?_ | refine Ext.drewN ?_ _)⟩
def insI (L P : List T2) : Bool := allN P.length fun k => pokAt P k && !(placeI L (at2 P k) == 0)
def allIn (L P : List T2) : Bool := insI L P && roomS L
theorem insI_no {L P : List T2} {k : Nat} (hk : k < P.length) (h : (pokAt P k && !(placeI L (at2 P k) == 0)) = false) : allIn L P = false := by unfold allIn insI; rw [allN_false hk h]; rfl
set_option maxHeartbeats 1600000 in
theorem allIn_any (A : Option Addr) (n c : Nat) (L : List T2) (B : Option Addr) (m d : Nat) (P : List T2) (w : World) (hl : Row w A (L.flatMap T2.v)) (hn : L.length = n) (hx : n ≤ 1048577) (hr : Row w B (P.flatMap T2.v)) (hm : P.length = m) (hy : m ≤ 1048577) : Gives Try.prog 37 #[.agg #[.slice A n c], .slice B m d] w (.bool (allIn L P)) := by
  subst hm
  have HL := hid hl
  have HR := hid hr
  clear hl hr
  (unfold Gives; go_enter Try.func37, Try.ntmps37)
  go_wp2_with fail
  obtain ⟨wt, hwt⟩ : ∃ wt, wt = w.alloc (.cells #[.slice A n c] 33) := ⟨_, rfl⟩
  have het : Ext w wt := by rw [hwt]; repeat (first | exact Ext.refl _ | refine Ext.alloc ?_ _ | assumption | refine Ext.over ?_ _ | refine Ext.drew ?_ | refine Ext.drewN ?_ _)
  have b0 : wt.cell? ⟨w.heap.size, 0, none⟩ = some (.slice A n c) := by rw [hwt]; go_simp
  have HT := hid het
  rw [← hwt]
  generalize w.heap.size = gh at b0 ⊢
  clear hwt het
  go_loopw [9] (fun kv wr => ∃ (k : Nat), k ≤ P.length ∧ kv = .int .i64 ↑k ∧ (∀ j, j < k → (pokAt P j && !(placeI L (at2 P j) == 0)) = true) ∧ Ext wt wr) (fun kv _ => P.length - (intOf kv).toNat)
  case atStart => exact ⟨0, by omega, rfl, by omega, by repeat (first | exact Ext.refl _ | refine Ext.alloc ?_ _ | assumption | refine Ext.over ?_ _ | refine Ext.drew ?_ | refine Ext.drewN ?_ _)⟩
  case round =>
    obtain ⟨k, hk, rfl, hall, he⟩ := hrel
    have HA := hid hall
    have HE := hid he
    have HX := hid (HT.out.trans he)
    have q0 := old_cell he b0
    clear hall he
    by_cases hlt : k < P.length
    · obtain ⟨b, off, hB, hc⟩ := (HR.out.ext HX.out).t2 hlt
      obtain ⟨c1, c2⟩ := hc k hlt
      have HPK := hid (show (pokAt P k && !(placeI L (at2 P k) == 0)) = (pok (at2 P k).a (at2 P k).b && !(placeI L (at2 P k) == 0)) from rfl)
      have HNO := hid (fun h => insI_no (L := L) hlt h)
      have HYE := hid (fun h => lt_succ_all (k := k) HA.out h)
      subst hB
      clear hc
      rw [HPK.out] at HNO HYE
      generalize at2 P k = p at c1 c2 HNO HYE
      clear HPK
      cases h1 : pok p.a p.b
      · have HV := hid (HNO.out (by rw [h1]; rfl))
        go_wp2_with (go_at_call 61; refine (gives_b h1 (iPointOk_any _ _ _)).over.mono ?_; rintro e w' ⟨rfl, xw, rfl⟩)
        go_ret
        exact ⟨by rw [HV.out]; rfl, HX.out.trans (by repeat (first | exact Ext.refl _ | refine Ext.alloc ?_ _ | assumption | refine Ext.over ?_ _ | refine Ext.drew ?_ | refine Ext.drewN ?_ _))⟩
      cases h2 : (placeI L p == 0)
      · have HN := hid (HYE.out (by rw [h1, h2]; rfl))
        go_wp2_with (first | (go_at_call 61; refine (gives_b h1 (iPointOk_any _ _ _)).over.mono ?_; rintro e w' ⟨rfl, xw, rfl⟩) | (go_at_call 62; refine (place_any A n c L p _ (HL.out.ext (HX.out.trans (by repeat (first | exact Ext.refl _ | refine Ext.alloc ?_ _ | assumption | refine Ext.over ?_ _ | refine Ext.drew ?_ | refine Ext.drewN ?_ _)))) hn hx).over.mono ?_; rintro e w' ⟨rfl, xw, rfl⟩))
        go_roundw
        case rel => exact ⟨k + 1, by omega, by go_num, HN.out, HE.out.trans (by repeat (first | exact Ext.refl _ | refine Ext.alloc ?_ _ | assumption | refine Ext.over ?_ _ | refine Ext.drew ?_ | refine Ext.drewN ?_ _))⟩
        case measure => simp [intOf]; omega
      · have HV := hid (HNO.out (by rw [h1, h2]; rfl))
        go_wp2_with (first | (go_at_call 61; refine (gives_b h1 (iPointOk_any _ _ _)).over.mono ?_; rintro e w' ⟨rfl, xw, rfl⟩) | (go_at_call 62; refine (place_any A n c L p _ (HL.out.ext (HX.out.trans (by repeat (first | exact Ext.refl _ | refine Ext.alloc ?_ _ | assumption | refine Ext.over ?_ _ | refine Ext.drew ?_ | refine Ext.drewN ?_ _)))) hn hx).over.mono ?_; rintro e w' ⟨rfl, xw, rfl⟩))
        go_ret
        exact ⟨by rw [HV.out]; rfl, HX.out.trans (by repeat (first | exact Ext.refl _ | refine Ext.alloc ?_ _ | assumption | refine Ext.over ?_ _ | refine Ext.drew ?_ | refine Ext.drewN ?_ _))⟩
    · obtain rfl : k = P.length := by omega
      have HV := hid (show allIn L P = roomS L by unfold allIn insI; rw [allN_true HA.out]; rfl)
      go_wp2_with (go_at_call 54; refine (iRoom_any A n c L _ (HL.out.ext (HX.out.trans (by repeat (first | exact Ext.refl _ | refine Ext.alloc ?_ _ | assumption | refine Ext.over ?_ _ | refine Ext.drew ?_ | refine Ext.drewN ?_ _)))) hn hx).over.mono ?_; rintro e w' ⟨rfl, xw, rfl⟩)
      go_ret
      exact ⟨by rw [HV.out]; rfl, HX.out.trans (by repeat (first | exact Ext.refl _ | refine Ext.alloc ?_ _ | assumption | refine Ext.over ?_ _ | refine Ext.drew ?_ | refine Ext.drewN ?_ _))⟩
theorem isIn_room {L : List T2} {p : T2} (h : isIn L p = true) : roomS L = true ∧ pokT p = true := by
  unfold isIn placeIn at h
  cases h1 : roomS L <;> cases h2 : pokT p <;> simp_all
theorem isIn_val {L : List T2} {p : T2} : isIn L p = (roomS L && pokT p && !(placeI L p == 0)) := by
  unfold isIn placeIn
  cases h1 : roomS L <;> cases h2 : pokT p <;> simp
end Go.Proofs.Ytkifapcegiajiaa
