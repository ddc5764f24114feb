/- Walks: seenOn, l22Seen, SeenOn. Conditions: at most 1048577 corners and points. -/
import Derived.Test.YtkifapcegiajiaaPatrol
namespace Go.Proofs.Ytkifapcegiajiaa
open Go.RowKit
set_option linter.unusedVariables false

theorem info_int : (Try.prog.info? 3).map (fun i => (i.zero, i.size, i.bytes)) = some (some (.int .i64 0), 1, 8) := by kernel_rfl
def seenF (L P : List T2) (p : T2) (k : Nat) : Bool := seesS L (at2 P k) p
def seenL (L P : List T2) (p : T2) : List Int := if patrolR L P && isIn L p then idxs (seenF L P p) P.length else []
theorem patrol_len {L P : List T2} (h : patrolR L P = true) : 1 ≤ P.length ∧ P.length ≤ 40 := by
  unfold patrolR at h
  simp only [Bool.and_eq_true] at h
  have := btw_iff.1 h.1
  omega
theorem patrol_in {L P : List T2} (h : patrolR L P = true) : allIn L P = true := by
  unfold patrolR walkR at h
  simp only [Bool.and_eq_true] at h
  exact h.2.1.2.1
theorem seenL_len (L P : List T2) (p : T2) : (seenL L P p).length ≤ 40 := by
  unfold seenL
  split
  · rename_i h
    simp only [Bool.and_eq_true] at h
    have := patrol_len h.1
    have := idxs_len (seenF L P p) P.length
    omega
  · simp
theorem own_nilS (w : World) (base : Nat) (e : TypeId) (size : Nat) : w.ownsRow base e size (.slice none 0 0) 0 [] := ⟨by simp, .inl ⟨rfl, rfl⟩⟩
set_option maxRecDepth 100000 in
set_option maxHeartbeats 1600000 in
theorem iSeen_any (A : Option Addr) (n c : Nat) (L : List T2) (B : Option Addr) (m d : Nat) (P : List T2) (p : T2) (w : World) (hl : Row w A (L.flatMap T2.v)) (hn : L.length = n) (hr : Row w B (P.flatMap T2.v)) (hm : P.length = m) (hy : m ≤ 1048577) (hro : roomS L = true) (hP : ∀ k, k < P.length → pokT (at2 P k) = true) (hp : pokT p = true) :
    Calls Try.prog 49 #[.agg #[.slice A n c], .slice B m d, .agg #[.int .i64 p.a, .int .i64 p.b]] w fun en w' => ∃ A' m' c', en = .returned (.slice A' m' c') ∧ w'.ownsRow w.heap.size 3 1 (.slice A' m' c') m' ((idxs (seenF L P p) P.length).map (Value.int .i64)) ∧ Ext w w' := by
  subst hm
  have HL := hid hl
  have HR := hid hr
  have HS := hid (fun k hk w' (h : Row w' A (L.flatMap T2.v)) => iSee_at A n c L (at2 P k) p w' h hn hro (hP k hk) hp)
  clear hl hr hro hP hp
  obtain ⟨wb, hwb⟩ : ∃ wb, wb = (w.alloc (.cells #[.slice A n c] 33)).alloc (.cells #[.int .i64 p.a, .int .i64 p.b] 35) := ⟨_, rfl⟩
  have hew : Ext w wb := by rw [hwb]; repeat (first | exact Ext.refl _ | refine Ext.alloc ?_ _ | assumption | refine Ext.over ?_ _ | refine Ext.drew ?_ | refine Ext.drewN ?_ _)
  have b0 : wb.cell? ⟨w.heap.size, 0, none⟩ = some (.slice A n c) := by rw [hwb]; go_simp
  have b1 : wb.cell? ⟨w.heap.size + 1, 0, none⟩ = some (.int .i64 p.a) := by rw [hwb]; go_simp
  have b2 : wb.cell? ⟨w.heap.size + 1, 1, none⟩ = some (.int .i64 p.b) := by rw [hwb]; go_simp
  have HSZ := hid (show wb.heap.size = w.heap.size + 1 + 1 by rw [hwb]; simp)
  have HT := hid hew
  go_enter Try.func49, Try.ntmps49
  go_wp2_with fail
  go_loopw [7, 13] (fun o i wr => ∃ (k : Nat) (A' : Option Addr) (m' c' : Nat), k ≤ P.length ∧ m' ≤ k ∧ i = .int .i64 ↑k ∧ o = .slice A' m' c' ∧ wr.ownsRow wb.heap.size 3 1 (.slice A' m' c') m' ((idxs (seenF L P p) k).map (Value.int .i64)) ∧ Ext wb wr) (fun _ i _ => (P.length - (intOf i).toNat))
  case atStart =>
    refine ⟨0, _, _, _, by omega, by omega, rfl, rfl, by rw [hwb]; exact own_empty _ _ _ (by simp) (by simp) _ _, by rw [hwb]; repeat (first | exact Ext.refl _ | refine Ext.alloc ?_ _ | assumption | refine Ext.over ?_ _ | refine Ext.drew ?_ | refine Ext.drewN ?_ _)⟩
  clear hwb hew
  case round =>
    obtain ⟨k, A', m', c', hk, hm, rfl, rfl, hown, he⟩ := hrel
    have hm9 : m' ≤ 1048577 := by omega
    have HE := hid he
    have HX := hid (HT.out.trans he)
    have r0 := old_cell he b0
    have r1 := old_cell he b1
    have r2 := old_cell he b2
    obtain ⟨x0, rfl⟩ := he.ex
    have HO := hid hown
    clear hown
    by_cases hlt : k < P.length
    · obtain ⟨bk, off, hB, hc⟩ := (HR.out.ext HX.out).t2 hlt
      obtain ⟨c1, c2⟩ := hc k hlt
      have hkt : (k : Int) < P.length := by omega
      have HSS := hid (HS.out k hlt)
      have HF := hid (show seenF L P p k = seesS L (at2 P k) p from rfl)
      subst hB
      clear hc
      generalize at2 P k = g at c1 c2 HSS HF
      cases hv : seesS L g p
      · have HI := hid (idxs_no (HF.out.trans hv))
        go_wp2_with (go_at_call 39; refine (gives_b hv (HSS.out _ (HL.out.ext (HX.out.trans (by repeat (first | exact Ext.refl _ | refine Ext.alloc ?_ _ | assumption | refine Ext.over ?_ _ | refine Ext.drew ?_ | refine Ext.drewN ?_ _)))))).over.mono ?_; rintro e w' ⟨rfl, xw, rfl⟩)
        go_roundw
        case rel => exact ⟨k + 1, A', m', c', by omega, by omega, by go_num, rfl, by rw [HI.out]; exact own_ext HO.out (by repeat (first | exact Ext.refl _ | refine Ext.alloc ?_ _ | assumption | refine Ext.over ?_ _ | refine Ext.drew ?_ | refine Ext.drewN ?_ _)), HE.out.trans (by repeat (first | exact Ext.refl _ | refine Ext.alloc ?_ _ | assumption | refine Ext.over ?_ _ | refine Ext.drew ?_ | refine Ext.drewN ?_ _))⟩
        case measure => simp [intOf]; omega
      · have HI := hid (idxs_yes (HF.out.trans hv))
        go_wp2_with (first | (go_at_call 39; refine (gives_b hv (HSS.out _ (HL.out.ext (HX.out.trans (by repeat (first | exact Ext.refl _ | refine Ext.alloc ?_ _ | assumption | refine Ext.over ?_ _ | refine Ext.drew ?_ | refine Ext.drewN ?_ _)))))).over.mono ?_; rintro e w' ⟨rfl, xw, rfl⟩) | (at_builtin; refine wpList_push (wb) rfl (.tmp 22) (.tmp 24) 28 rfl 3 Try.underlying28 info_int rfl (by decide) _ m' _ rfl (ovr wb x0) HO.out (by repeat (first | exact Ext.refl _ | refine Ext.alloc ?_ _ | assumption | refine Ext.over ?_ _ | refine Ext.drew ?_ | refine Ext.drewN ?_ _)) (by repeat (first | exact Ext.refl _ | refine Ext.alloc ?_ _ | assumption | refine Ext.over ?_ _ | refine Ext.drew ?_ | refine Ext.drewN ?_ _)) _ 1 1 [.int .i64 (k)] rfl rfl (lit_cells _ _ (by first | (simp; done) | simp [ovr_size]) _ _) (by intro u hu; simp at hu; subst hu; rfl) (by omega) (by decide) ?_))
        intro A3 c3 w3 hown3 he3
        have HO3 := hid hown3
        clear hown3 HO
        go_wp2_with fail
        go_roundw
        case rel => exact ⟨k + 1, A3, m' + 1, c3, by omega, by omega, by go_num, rfl, by rw [HI.out]; simpa using HO3.out, he3⟩
        case measure => simp [intOf]; omega
    · obtain rfl : k = P.length := by omega
      go_wp2_with fail
      go_ret
      exact ⟨_, _, _, rfl, own_base HO.out (by have := HSZ.out; omega), HX.out⟩
set_option maxRecDepth 100000 in
set_option maxHeartbeats 1600000 in
theorem iSeenOn_at (A : Option Addr) (n c : Nat) (L : List T2) (B : Option Addr) (m d : Nat) (P : List T2) (pa pb : Int) (w : World) (hl : Row w A (L.flatMap T2.v)) (hn : L.length = n) (hx : n ≤ 1048577) (hr : Row w B (P.flatMap T2.v)) (hm : P.length = m) (hy : m ≤ 1048577) :
    Calls Try.prog 24 #[.agg #[.slice A n c], .slice B m d, .agg #[.int .i64 pa, .int .i64 pb]] w fun en w' => ∃ A' m' c', en = .returned (.slice A' m' c') ∧ w'.ownsRow w.heap.size 3 1 (.slice A' m' c') m' ((seenL L P (⟨pa, pb⟩ : T2)).map (Value.int .i64)) ∧ Ext w w' := by
  obtain ⟨p, hp⟩ : ∃ p : T2, p = ⟨pa, pb⟩ := ⟨_, rfl⟩
  obtain rfl : p.a = pa := by rw [hp]
  obtain rfl : p.b = pb := by rw [hp]
  rw [show (⟨p.a, p.b⟩ : T2) = p from rfl]
  clear hp
  subst hm
  have HL := hid hl
  have HR := hid hr
  have HI := hid (fun w' (h : Row w' A (L.flatMap T2.v)) => iIsIn_any A n c L p w' h hn hx)
  clear hl hr
  unfold ptV at HI
  cases hpo : patrolR L P
  · have HV := hid (show seenL L P p = [] by unfold seenL; rw [hpo]; rfl)
    go_enter Try.func24, Try.ntmps24
    go_wp2_with fail
    refine (gives_b hpo (iPatrol_any A n c L B P.length d P _ (HL.out.ext (by repeat (first | exact Ext.refl _ | refine Ext.alloc ?_ _ | assumption | refine Ext.over ?_ _ | refine Ext.drew ?_ | refine Ext.drewN ?_ _))) hn hx (HR.out.ext (by repeat (first | exact Ext.refl _ | refine Ext.alloc ?_ _ | assumption | refine Ext.over ?_ _ | refine Ext.drew ?_ | refine Ext.drewN ?_ _))) rfl hy)).mono ?_
    rintro _ w1 ⟨rfl, e1⟩
    have E1 := hid (Ext.trans (show Ext w _ by repeat (first | exact Ext.refl _ | refine Ext.alloc ?_ _ | assumption | refine Ext.over ?_ _ | refine Ext.drew ?_ | refine Ext.drewN ?_ _)) e1)
    clear e1
    go_wp2_with fail
    go_ret
    exact ⟨_, _, _, rfl, by rw [HV.out]; exact own_nilS _ _ _ _, E1.out⟩
  cases hin : isIn L p
  · have HV := hid (show seenL L P p = [] by unfold seenL; rw [hin]; simp)
    go_enter Try.func24, Try.ntmps24
    go_wp2_with fail
    refine (gives_b hpo (iPatrol_any A n c L B P.length d P _ (HL.out.ext (by repeat (first | exact Ext.refl _ | refine Ext.alloc ?_ _ | assumption | refine Ext.over ?_ _ | refine Ext.drew ?_ | refine Ext.drewN ?_ _))) hn hx (HR.out.ext (by repeat (first | exact Ext.refl _ | refine Ext.alloc ?_ _ | assumption | refine Ext.over ?_ _ | refine Ext.drew ?_ | refine Ext.drewN ?_ _))) rfl hy)).mono ?_
    rintro _ w1 ⟨rfl, e1⟩
    have b0 : w1.cell? ⟨w.heap.size, 0, none⟩ = some (.slice A n c) := old_cell e1 (by go_simp)
    have b1 : w1.cell? ⟨w.heap.size + 1, 0, none⟩ = some (.int .i64 p.a) := old_cell e1 (by go_simp)
    have b2 : w1.cell? ⟨w.heap.size + 1, 1, none⟩ = some (.int .i64 p.b) := old_cell e1 (by go_simp)
    have E0 := hid (Ext.trans (show Ext w _ by repeat (first | exact Ext.refl _ | refine Ext.alloc ?_ _ | assumption | refine Ext.over ?_ _ | refine Ext.drew ?_ | refine Ext.drewN ?_ _)) e1)
    clear e1
    go_wp2_with fail
    refine (gives_b hin (HI.out _ (HL.out.ext E0.out))).mono ?_
    rintro _ w2 ⟨rfl, e2⟩
    have E1 := hid (E0.out.trans e2)
    clear e2
    go_wp2_with fail
    go_ret
    exact ⟨_, _, _, rfl, by rw [HV.out]; exact own_nilS _ _ _ _, E1.out⟩
  have HV := hid (show seenL L P p = idxs (seenF L P p) P.length by unfold seenL; rw [hpo, hin]; rfl)
  have hro := (isIn_room hin).1
  have hpk := (isIn_room hin).2
  have HAT := hid (fun k hk => (allIn_at (patrol_in hpo) (k := k) hk).1)
  have HSN := hid (fun w' (h : Row w' A (L.flatMap T2.v)) (h' : Row w' B (P.flatMap T2.v)) => iSeen_any A n c L B P.length d P p w' h hn h' rfl hy hro HAT.out hpk)
  go_enter Try.func24, Try.ntmps24
  go_wp2_with fail
  refine (gives_b hpo (iPatrol_any A n c L B P.length d P _ (HL.out.ext (by repeat (first | exact Ext.refl _ | refine Ext.alloc ?_ _ | assumption | refine Ext.over ?_ _ | refine Ext.drew ?_ | refine Ext.drewN ?_ _))) hn hx (HR.out.ext (by repeat (first | exact Ext.refl _ | refine Ext.alloc ?_ _ | assumption | refine Ext.over ?_ _ | refine Ext.drew ?_ | refine Ext.drewN ?_ _))) rfl hy)).mono ?_
  rintro _ w1 ⟨rfl, e1⟩
  have b0 : w1.cell? ⟨w.heap.size, 0, none⟩ = some (.slice A n c) := old_cell e1 (by go_simp)
  have b1 : w1.cell? ⟨w.heap.size + 1, 0, none⟩ = some (.int .i64 p.a) := old_cell e1 (by go_simp)
  have b2 : w1.cell? ⟨w.heap.size + 1, 1, none⟩ = some (.int .i64 p.b) := old_cell e1 (by go_simp)
  have E0 := hid (Ext.trans (show Ext w _ by repeat (first | exact Ext.refl _ | refine Ext.alloc ?_ _ | assumption | refine Ext.over ?_ _ | refine Ext.drew ?_ | refine Ext.drewN ?_ _)) e1)
  clear e1
  go_wp2_with fail
  refine (gives_b hin (HI.out _ (HL.out.ext E0.out))).mono ?_
  rintro _ w2 ⟨rfl, e2⟩
  have E1 := hid (E0.out.trans e2)
  have b0 := old_cell e2 b0
  have b1 := old_cell e2 b1
  have b2 := old_cell e2 b2
  clear e2 E0
  go_wp2_with fail
  refine (HSN.out _ (HL.out.ext E1.out) (HR.out.ext E1.out)).mono ?_
  rintro _ w3 ⟨A3, m3, c3, rfl, ho, he⟩
  have HO := hid (own_base ho E1.out.size)
  have HE := hid (E1.out.trans he)
  clear ho he
  go_wp2_with fail
  go_ret
  exact ⟨A3, m3, c3, rfl, by rw [HV.out]; exact HO.out, HE.out⟩
end Go.Proofs.Ytkifapcegiajiaa
