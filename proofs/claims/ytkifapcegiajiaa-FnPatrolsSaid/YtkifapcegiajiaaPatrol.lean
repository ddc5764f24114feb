/- Walks: WalkOk, PatrolOk, l13In. Conditions: at most 1048577 corners and points. -/
import Derived.Test.YtkifapcegiajiaaSeesS
import Derived.Test.YtkifapcegiajiaaSymm
namespace Go.Proofs.Ytkifapcegiajiaa
open Go.RowKit
set_option linter.unusedVariables false

def walkStep (L P : List T2) (k : Nat) : Bool := seesS L (at2 P k) (at2 P (k + 1))
def walkR (L P : List T2) : Bool := decide (P.length ≤ 40) && (allIn L P && allN (P.length - 1) (walkStep L P))
def patrolR (L P : List T2) : Bool := btw P.length 1 40 && (walkR L P && seesS L (at2 P 0) (at2 P (P.length - 1)))
theorem allIn_room {L P : List T2} (h : allIn L P = true) : roomS L = true := by unfold allIn at h; simp only [Bool.and_eq_true] at h; exact h.2
theorem allIn_at {L P : List T2} (h : allIn L P = true) {k : Nat} (hk : k < P.length) : pokT (at2 P k) = true ∧ ¬ placeI L (at2 P k) = 0 := by
  unfold allIn insI at h
  simp only [Bool.and_eq_true] at h
  have := allN_iff.1 h.1 k hk
  simp only [Bool.and_eq_true, Bool.not_eq_true', beq_eq_false_iff_ne] at this
  exact this
theorem iSee_at (A : Option Addr) (n c : Nat) (L : List T2) (p q : T2) (w : World) (hl : Row w A (L.flatMap T2.v)) (hn : L.length = n) (hr : roomS L = true) (ha : pokT p = true) (hb : pokT q = true) : Gives Try.prog 39 #[.agg #[.slice A n c], .agg #[.int .i64 p.a, .int .i64 p.b], .agg #[.int .i64 q.a, .int .i64 q.b]] w (.bool (seesS L p q)) :=
  sees_any A n c L p q w hl hn hr ha hb
theorem sSee_at (A : Option Addr) (n c : Nat) (L : List T2) (p q : T2) (w : World) (hl : Row w A (L.flatMap T2.v)) (hn : L.length = n) (hr : roomS L = true) (ha : pokT p = true) (hb : pokT q = true) : Gives Try.prog 35 #[.slice A n c, .agg #[.int .i64 p.a, .int .i64 p.b], .agg #[.int .i64 q.a, .int .i64 q.b]] w (.bool (seesS L p q)) :=
  l08Sees_any A n c L p q w hl hn hr
set_option maxRecDepth 100000 in
set_option maxHeartbeats 1600000 in
theorem iWalk_any (A : Option Addr) (n c : Nat) (L : List T2) (B : Option Addr) (m d : Nat) (P : List T2) (w : World) (hl : Row w A (L.flatMap T2.v)) (hn : L.length = n) (hx : n ≤ 1048577) (hr : Row w B (P.flatMap T2.v)) (hm : P.length = m) (hy : m ≤ 1048577) : Gives Try.prog 30 #[.agg #[.slice A n c], .slice B m d] w (.bool (walkR L P)) := by
  subst hm
  have HL := hid hl
  have HR := hid hr
  clear hl hr
  by_cases h40 : P.length ≤ 40
  rotate_left
  · have HV := hid (show walkR L P = false by unfold walkR; rw [decide_eq_false h40]; rfl)
    have h40' : (40 : Int) < P.length := by omega
    cases hal : allIn L P
    all_goals
      (unfold Gives; go_enter Try.func30, Try.ntmps30)
      go_wp2_with (go_at_call 37; refine (gives_b hal (allIn_any A n c L B P.length d P _ (HL.out.ext (by repeat (first | exact Ext.refl _ | refine Ext.alloc ?_ _ | assumption | refine Ext.over ?_ _ | refine Ext.drew ?_ | refine Ext.drewN ?_ _))) hn hx (HR.out.ext (by repeat (first | exact Ext.refl _ | refine Ext.alloc ?_ _ | assumption | refine Ext.over ?_ _ | refine Ext.drew ?_ | refine Ext.drewN ?_ _))) rfl hy)).over.mono ?_; rintro e w' ⟨rfl, xw, rfl⟩)
      go_ret
      exact ⟨by rw [HV.out]; rfl, by repeat (first | exact Ext.refl _ | refine Ext.alloc ?_ _ | assumption | refine Ext.over ?_ _ | refine Ext.drew ?_ | refine Ext.drewN ?_ _)⟩
  have h40' : (P.length : Int) ≤ 40 := by omega
  cases hal : allIn L P
  · have HV := hid (show walkR L P = false by unfold walkR; rw [hal]; simp)
    (unfold Gives; go_enter Try.func30, Try.ntmps30)
    go_wp2_with (go_at_call 37; refine (gives_b hal (allIn_any A n c L B P.length d P _ (HL.out.ext (by repeat (first | exact Ext.refl _ | refine Ext.alloc ?_ _ | assumption | refine Ext.over ?_ _ | refine Ext.drew ?_ | refine Ext.drewN ?_ _))) hn hx (HR.out.ext (by repeat (first | exact Ext.refl _ | refine Ext.alloc ?_ _ | assumption | refine Ext.over ?_ _ | refine Ext.drew ?_ | refine Ext.drewN ?_ _))) rfl hy)).over.mono ?_; rintro e w' ⟨rfl, xw, rfl⟩)
    go_ret
    exact ⟨by rw [HV.out]; rfl, by repeat (first | exact Ext.refl _ | refine Ext.alloc ?_ _ | assumption | refine Ext.over ?_ _ | refine Ext.drew ?_ | refine Ext.drewN ?_ _)⟩
  have HV := hid (show walkR L P = allN (P.length - 1) (walkStep L P) by unfold walkR; rw [decide_eq_true h40, hal]; rfl)
  have hro := allIn_room hal
  have HAT := hid (fun k hk => (allIn_at hal (k := k) hk).1)
  have HS := hid (fun p q w' (h : Row w' A (L.flatMap T2.v)) (hp : pokT p = true) (hq : pokT q = true) => iSee_at A n c L p q w' h hn hro hp hq)
  (unfold Gives; go_enter Try.func30, Try.ntmps30)
  go_wp2_with fail
  refine (gives_b hal (allIn_any A n c L B P.length d P _ (HL.out.ext (by repeat (first | exact Ext.refl _ | refine Ext.alloc ?_ _ | assumption | refine Ext.over ?_ _ | refine Ext.drew ?_ | refine Ext.drewN ?_ _))) hn hx (HR.out.ext (by repeat (first | exact Ext.refl _ | refine Ext.alloc ?_ _ | assumption | refine Ext.over ?_ _ | refine Ext.drew ?_ | refine Ext.drewN ?_ _))) rfl hy)).mono ?_
  rintro _ w1 ⟨rfl, e1⟩
  have b0 : w1.cell? ⟨w.heap.size, 0, none⟩ = some (.slice A n c) := old_cell e1 (by go_simp)
  have E1 := hid (Ext.trans (show Ext w _ by repeat (first | exact Ext.refl _ | refine Ext.alloc ?_ _ | assumption | refine Ext.over ?_ _ | refine Ext.drew ?_ | refine Ext.drewN ?_ _)) e1)
  generalize w.heap.size = gr at b0 ⊢
  clear e1 hal hro
  go_wp2_with fail
  go_loopw [5] (fun iv wr => ∃ (i : Nat), 1 ≤ i ∧ (i ≤ P.length ∨ i = 1) ∧ iv = .int .i64 ↑i ∧ (∀ j, j + 1 < i → walkStep L P j = true) ∧ Ext w1 wr) (fun iv _ => P.length + 1 - (intOf iv).toNat)
  case atStart => exact ⟨1, by omega, by omega, by go_num, (fun j hj => by omega), Ext.refl _⟩
  case round =>
    obtain ⟨i, hi, hil, rfl, hok, he⟩ := hrel
    have HK := hid hok
    have HE := hid he
    have HX := hid (E1.out.trans he)
    have r0 := old_cell he b0
    clear hok he
    by_cases hlt : i < P.length
    · obtain ⟨im, him⟩ : ∃ im, im = i - 1 := ⟨_, rfl⟩
      have hwj : IntKind.i64.wrap ((i : Int) - 1) = (im : Int) := by rw [IntWalk.i64_in _ (by omega)]; omega
      have hi' : (i : Int) < P.length := by omega
      have him' : (im : Int) < P.length := by omega
      obtain ⟨bk, off, hB, hcb⟩ := (HR.out.ext HX.out).t2 hlt
      obtain ⟨c1, c2⟩ := hcb i hlt
      obtain ⟨e1, e2⟩ := hcb im (by omega)
      have HNO := hid (fun (h : seesS L (at2 P im) (at2 P i) = false) => (show allN (P.length - 1) (walkStep L P) = false from allN_false (k := im) (by omega) (by unfold walkStep; rw [show im + 1 = i by omega]; exact h)))
      have HYES := hid (fun (h : seesS L (at2 P im) (at2 P i) = true) j (hj : j + 1 < i + 1) => (show walkStep L P j = true by
        rcases Nat.lt_or_ge (j + 1) i with h5 | h5
        · exact HK.out j h5
        · unfold walkStep; rw [show j = im by omega, show im + 1 = i by omega]; exact h))
      have HSS := hid (fun w' (h : Row w' A (L.flatMap T2.v)) => HS.out (at2 P im) (at2 P i) w' h (HAT.out im (by omega)) (HAT.out i hlt))
      subst hB
      clear hcb him
      generalize at2 P i = p at c1 c2 HNO HYES HSS
      generalize at2 P im = q at e1 e2 HNO HYES HSS
      cases h7 : seesS L q p
      · have HV2 := hid (HV.out.trans (HNO.out h7))
        go_wp2_with fail
        (refine wp_region_calm (by kernel_rfl) (by kernel_rfl) ?_; (repeat (go_big_quiet_step ((go_at_call 39; exact (gives_b h7 (HSS.out _ (HL.out.ext (HX.out.trans (by repeat (first | exact Ext.refl _ | refine Ext.alloc ?_ _ | assumption | refine Ext.over ?_ _ | refine Ext.drew ?_ | refine Ext.drewN ?_ _)))))).calm)))); refine wpQuiet_nil ?_; rintro w1 ⟨x1, rfl⟩)
        go_wp2_with fail
        go_ret
        exact ⟨by rw [HV2.out]; rfl, HX.out.trans (by repeat (first | exact Ext.refl _ | refine Ext.alloc ?_ _ | assumption | refine Ext.over ?_ _ | refine Ext.drew ?_ | refine Ext.drewN ?_ _))⟩
      · have HN := hid (HYES.out h7)
        go_wp2_with fail
        (refine wp_region_calm (by kernel_rfl) (by kernel_rfl) ?_; (repeat (go_big_quiet_step ((go_at_call 39; exact (gives_b h7 (HSS.out _ (HL.out.ext (HX.out.trans (by repeat (first | exact Ext.refl _ | refine Ext.alloc ?_ _ | assumption | refine Ext.over ?_ _ | refine Ext.drew ?_ | refine Ext.drewN ?_ _)))))).calm)))); refine wpQuiet_nil ?_; rintro w1 ⟨x1, rfl⟩)
        go_wp2_with fail
        go_roundw
        case rel => exact ⟨i + 1, by omega, by omega, by go_num, HN.out, HE.out.trans (by repeat (first | exact Ext.refl _ | refine Ext.alloc ?_ _ | assumption | refine Ext.over ?_ _ | refine Ext.drew ?_ | refine Ext.drewN ?_ _))⟩
        case measure => simp [intOf]; omega
    · have HV2 := hid (show walkR L P = true by rw [HV.out]; exact allN_true fun j hj => HK.out j (by omega))
      have hi' : ¬ (i : Int) < P.length := by omega
      go_wp2_with fail
      go_ret
      exact ⟨by rw [HV2.out]; rfl, HX.out⟩
set_option maxRecDepth 100000 in
set_option maxHeartbeats 1600000 in
theorem iPatrol_any (A : Option Addr) (n c : Nat) (L : List T2) (B : Option Addr) (m d : Nat) (P : List T2) (w : World) (hl : Row w A (L.flatMap T2.v)) (hn : L.length = n) (hx : n ≤ 1048577) (hr : Row w B (P.flatMap T2.v)) (hm : P.length = m) (hy : m ≤ 1048577) : Gives Try.prog 22 #[.agg #[.slice A n c], .slice B m d] w (.bool (patrolR L P)) := by
  subst hm
  have HL := hid hl
  have HR := hid hr
  clear hl hr
  cases hb : btw P.length 1 40
  · have HV := hid (show patrolR L P = false by unfold patrolR; rw [hb]; rfl)
    (unfold Gives; go_enter Try.func22, Try.ntmps22)
    go_wp2_with fail
    (refine wp_region_calm (by kernel_rfl) (by kernel_rfl) ?_; (repeat (go_big_quiet_step ((go_at_call 50; exact (gives_b hb (between_any _ _ _ _)).calm)))); refine wpQuiet_nil ?_; rintro w1 ⟨x1, rfl⟩)
    go_wp2_with fail
    go_ret
    exact ⟨by rw [HV.out]; rfl, by repeat (first | exact Ext.refl _ | refine Ext.alloc ?_ _ | assumption | refine Ext.over ?_ _ | refine Ext.drew ?_ | refine Ext.drewN ?_ _)⟩
  have hbb := btw_iff.1 hb
  cases hw : walkR L P
  · have HV := hid (show patrolR L P = false by unfold patrolR; rw [hw]; simp)
    (unfold Gives; go_enter Try.func22, Try.ntmps22)
    go_wp2_with fail
    (refine wp_region_calm (by kernel_rfl) (by kernel_rfl) ?_; (repeat (go_big_quiet_step (first | (go_at_call 50; exact (gives_b hb (between_any _ _ _ _)).calm) | (go_at_call 30; exact (gives_b hw (iWalk_any A n c L B P.length d P _ (HL.out.ext (by repeat (first | exact Ext.refl _ | refine Ext.alloc ?_ _ | assumption | refine Ext.over ?_ _ | refine Ext.drew ?_ | refine Ext.drewN ?_ _))) hn hx (HR.out.ext (by repeat (first | exact Ext.refl _ | refine Ext.alloc ?_ _ | assumption | refine Ext.over ?_ _ | refine Ext.drew ?_ | refine Ext.drewN ?_ _))) rfl hy)).calm)))); refine wpQuiet_nil ?_; rintro w1 ⟨x1, rfl⟩)
    go_wp2_with fail
    go_ret
    exact ⟨by rw [HV.out]; rfl, by repeat (first | exact Ext.refl _ | refine Ext.alloc ?_ _ | assumption | refine Ext.over ?_ _ | refine Ext.drew ?_ | refine Ext.drewN ?_ _)⟩
  have hal : allIn L P = true := by unfold walkR at hw; simp only [Bool.and_eq_true] at hw; exact hw.2.1
  have hro := allIn_room hal
  obtain ⟨im, him⟩ : ∃ im, im = P.length - 1 := ⟨_, rfl⟩
  have hwj : IntKind.i64.wrap ((P.length : Int) - 1) = (im : Int) := by rw [IntWalk.i64_in _ (by omega)]; omega
  have h0' : (0 : Int) < P.length := by omega
  have him' : (im : Int) < P.length := by omega
  have HV := hid (show patrolR L P = seesS L (at2 P im) (at2 P 0) by
    unfold patrolR
    rw [hb, hw, ← him]
    first
    | rfl
    | (rw [seesS_symm (roomP_of hro) (small_pok (allIn_at hal (by omega)).1) (small_pok (allIn_at hal (by omega)).1)]; rfl))
  have HSS := hid (fun w' (h : Row w' A (L.flatMap T2.v)) => iSee_at A n c L (at2 P im) (at2 P 0) w' h hn hro (allIn_at hal (by omega)).1 (allIn_at hal (by omega)).1)
  have HR0 := hid (HR.out.ext (w' := w.alloc (.cells #[.slice A n c] 33)) (by repeat (first | exact Ext.refl _ | refine Ext.alloc ?_ _ | assumption | refine Ext.over ?_ _ | refine Ext.drew ?_ | refine Ext.drewN ?_ _)))
  obtain ⟨bk, off, hB, hcb⟩ := HR0.out.t2 (i := 0) (by omega)
  obtain ⟨c1, c2⟩ := hcb 0 (by omega)
  obtain ⟨e1, e2⟩ := hcb im (by omega)
  have e00 : off + 0 * 2 = off := by omega
  rw [e00] at c1 c2
  have HW2 := hid (fun w' (h : Row w' A (L.flatMap T2.v)) (h' : Row w' B (P.flatMap T2.v)) => gives_b hw (iWalk_any A n c L B P.length d P w' h hn hx h' rfl hy))
  subst hB
  clear hcb him hal hro hw hbb e00
  generalize at2 P im = q at e1 e2 HV HSS
  generalize at2 P 0 = p at c1 c2 HV HSS
  (unfold Gives; go_enter Try.func22, Try.ntmps22)
  go_wp2_with fail
  (refine wp_region_calm (by kernel_rfl) (by kernel_rfl) ?_; (repeat (go_big_quiet_step (first | (go_at_call 50; exact (gives_b hb (between_any _ _ _ _)).calm) | (go_at_call 30; exact (HW2.out _ (HL.out.ext (by repeat (first | exact Ext.refl _ | refine Ext.alloc ?_ _ | assumption | refine Ext.over ?_ _ | refine Ext.drew ?_ | refine Ext.drewN ?_ _))) (HR.out.ext (by repeat (first | exact Ext.refl _ | refine Ext.alloc ?_ _ | assumption | refine Ext.over ?_ _ | refine Ext.drew ?_ | refine Ext.drewN ?_ _)))).calm) | (go_at_call 39; exact (HSS.out _ (HL.out.ext (by repeat (first | exact Ext.refl _ | refine Ext.alloc ?_ _ | assumption | refine Ext.over ?_ _ | refine Ext.drew ?_ | refine Ext.drewN ?_ _)))).calm)))); refine wpQuiet_nil ?_; rintro w1 ⟨x1, rfl⟩)
  go_wp2_with fail
  go_ret
  exact ⟨by rw [HV.out]; rfl, by repeat (first | exact Ext.refl _ | refine Ext.alloc ?_ _ | assumption | refine Ext.over ?_ _ | refine Ext.drew ?_ | refine Ext.drewN ?_ _)⟩
end Go.Proofs.Ytkifapcegiajiaa
