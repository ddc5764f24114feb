/- Walks: DoorsFrom. Conditions: sizes. -/
import Derived.Test.YtngniniiohgilaaHas
namespace Go.Proofs.Ytngniniiohgilaa
open Go.RowKit
set_option linter.unusedVariables false

def doorsFrom (h : Int) (l : List T2) (x : Int) : List Int := if hasHall h l x = true then links l x h.toNat else []
theorem doorsFrom_no {h : Int} {l : List T2} {x : Int} (g : hasHall h l x = false) : doorsFrom h l x = [] := by unfold doorsFrom; rw [g]; simp
theorem doorsFrom_yes {h : Int} {l : List T2} {x : Int} (g : hasHall h l x = true) : doorsFrom h l x = links l x h.toNat := by unfold doorsFrom; rw [if_pos g]
theorem doorsFrom_len (h : Int) (l : List T2) (x : Int) : (doorsFrom h l x).length ≤ 7 := by
  unfold doorsFrom
  split
  · rename_i g
    obtain ⟨hk, _, _⟩ := hasHall_iff.1 g
    obtain ⟨_, _, h7, _⟩ := houseOk_bounds hk
    have := links_len l x h.toNat
    omega
  · simp
theorem own_nil (w : World) (base : Nat) (e : TypeId) (size : Nat) : w.ownsRow base e size (.slice none 0 0) 0 [] := ⟨by simp, .inl ⟨rfl, rfl⟩⟩
set_option maxRecDepth 100000 in
set_option maxHeartbeats 1600000 in
theorem iDoorsFrom_any (h : Int) (A : Option Addr) (n c : Nat) (l : List T2) (x : Int) (w : World) (hl : Row w A (l.flatMap T2.v)) (hn : l.length = n) (hx : n ≤ 1048577) :
    Calls Try.prog 11 #[.agg #[.int .i64 h, .slice A n c], .int .i64 x] w fun en w' => ∃ A' m' c', en = .returned (.slice A' m' c') ∧ w'.ownsRow w.heap.size 3 1 (.slice A' m' c') m' ((doorsFrom h l x).map (Value.int .i64)) ∧ Ext w w' := by
  subst hn
  cases hk : houseOk h l
  · have HB := hid (doorsFrom_no (show hasHall h l x = false by unfold hasHall; rw [hk]; rfl))
    go_enter Try.func11, Try.ntmps11
    go_wp2_with (go_at_call 15; refine (gives_b hk (iHouseOk_any _ _ _ _ l _ (hl.ext (by repeat (first | exact Ext.refl _ | refine Ext.alloc ?_ _ | assumption | refine Ext.over ?_ _ | refine Ext.drew ?_ | refine Ext.drewN ?_ _))) rfl hx)).over.mono ?_; rintro e w' ⟨rfl, xw, rfl⟩)
    go_ret
    rw [HB.out]
    exact ⟨_, _, _, rfl, own_nil _ _ _ _, by repeat (first | exact Ext.refl _ | refine Ext.alloc ?_ _ | assumption | refine Ext.over ?_ _ | refine Ext.drew ?_ | refine Ext.drewN ?_ _)⟩
  obtain ⟨hd, h1, h7, h12⟩ := houseOk_bounds hk
  have HD := hid hd
  clear hd
  cases ha : btw x 0 (h - 1)
  · have HB := hid (doorsFrom_no (show hasHall h l x = false by unfold hasHall; rw [ha]; simp))
    go_enter Try.func11, Try.ntmps11
    go_wp2_with (first | (go_at_call 15; refine (gives_b hk (iHouseOk_any _ _ _ _ l _ (hl.ext (by repeat (first | exact Ext.refl _ | refine Ext.alloc ?_ _ | assumption | refine Ext.over ?_ _ | refine Ext.drew ?_ | refine Ext.drewN ?_ _))) rfl hx)).over.mono ?_; rintro e w' ⟨rfl, xw, rfl⟩) | (go_at_call 42; refine (gives_b ha (isHall_any _ _ _ _ _ _ h1 h7)).over.mono ?_; rintro e w' ⟨rfl, xw, rfl⟩))
    go_ret
    rw [HB.out]
    exact ⟨_, _, _, rfl, own_nil _ _ _ _, by repeat (first | exact Ext.refl _ | refine Ext.alloc ?_ _ | assumption | refine Ext.over ?_ _ | refine Ext.drew ?_ | refine Ext.drewN ?_ _)⟩
  have HB := hid (doorsFrom_yes (show hasHall h l x = true by unfold hasHall; rw [hk, ha]; rfl))
  obtain ⟨h, rfl⟩ : ∃ k : Nat, h = k := ⟨h.toNat, by omega⟩
  go_enter Try.func11, Try.ntmps11
  go_wp2_with (first | (go_at_call 15; refine (gives_b hk (iHouseOk_any _ _ _ _ l _ (hl.ext (by repeat (first | exact Ext.refl _ | refine Ext.alloc ?_ _ | assumption | refine Ext.over ?_ _ | refine Ext.drew ?_ | refine Ext.drewN ?_ _))) rfl hx)).over.mono ?_; rintro e w' ⟨rfl, xw, rfl⟩) | (go_at_call 42; refine (gives_b ha (isHall_any _ _ _ _ _ _ h1 h7)).over.mono ?_; rintro e w' ⟨rfl, xw, rfl⟩))
  refine (linksOf_any h A l.length c l x _ (hl.ext (by repeat (first | exact Ext.refl _ | refine Ext.alloc ?_ _ | assumption | refine Ext.over ?_ _ | refine Ext.drew ?_ | refine Ext.drewN ?_ _))) rfl h12 (by omega) HD.out).mono ?_
  rintro _ w1 ⟨A1, m1, c1, rfl, ho, he⟩
  have E1 := hid (Ext.trans (show Ext w _ by repeat (first | exact Ext.refl _ | refine Ext.alloc ?_ _ | assumption | refine Ext.over ?_ _ | refine Ext.drew ?_ | refine Ext.drewN ?_ _)) he)
  have HO := hid (own_base (base' := w.heap.size) ho (show Ext w _ by repeat (first | exact Ext.refl _ | refine Ext.alloc ?_ _ | assumption | refine Ext.over ?_ _ | refine Ext.drew ?_ | refine Ext.drewN ?_ _)).size)
  clear ho he
  go_wp2_with fail
  go_ret
  rw [HB.out, Int.toNat_natCast]
  exact ⟨_, _, _, rfl, HO.out, E1.out⟩
theorem links_self {h : Int} {l : List T2} (hf : doorsOk h l = true) {k x : Nat} : (decide (¬ (k : Int) = x) && hasD l k x) = hasD l x k := by
  by_cases hkx : k = x
  · subst hkx
    have : hasD l k k = false := by
      refine hasD_no fun j hj => ?_
      have h1 := allN_iff.1 hf j hj
      unfold doorAt at h1
      simp only [Bool.and_eq_true, Bool.not_eq_true'] at h1
      have h2 := h1.1
      unfold badD at h2
      simp only [Bool.or_eq_false_iff, decide_eq_false_iff_not] at h2
      unfold isD
      rw [Int.min_self, Int.max_self, Bool.and_eq_false_iff, beq_eq_false_iff_ne, beq_eq_false_iff_ne]
      omega
    rw [this]; simp
  · rw [decide_eq_true (by omega), hasD_symm]; rfl
set_option maxRecDepth 100000 in
set_option maxHeartbeats 1600000 in
theorem sDoorsFrom_any (h : Int) (A : Option Addr) (n c : Nat) (l : List T2) (x : Int) (w : World) (hl : Row w A (l.flatMap T2.v)) (hn : l.length = n) (hx : n ≤ 1048577) :
    Calls Try.prog 19 #[.agg #[.int .i64 h, .slice A n c], .int .i64 x] w fun en w' => ∃ A' m' c', en = .returned (.slice A' m' c') ∧ w'.ownsRow w.heap.size 3 1 (.slice A' m' c') m' ((doorsFrom h l x).map (Value.int .i64)) ∧ Ext w w' := by
  subst hn
  cases ha : hasHall h l x
  · have HB := hid (doorsFrom_no ha)
    go_enter Try.func19, Try.ntmps19
    go_wp2_with fail
    have HO := hid (own_empty (w.alloc (.cells #[.int .i64 h, .slice A l.length c] 26)) (w.heap.size + 1) w.heap.size (by simp) (by simp) 3 1)
    go_loopw [5, 6] (fun o i wr => i = .int .i64 0 ∧ o = .slice (some ⟨w.heap.size + 1, 0, none⟩) 0 0 ∧ wr = (w.alloc (.cells #[.int .i64 h, .slice A l.length c] 26)).alloc (.cells #[] 3)) (fun _ _ _ => 0)
    case atStart => exact ⟨rfl, by simp, rfl⟩
    case round =>
      obtain ⟨rfl, rfl, rfl⟩ := hrel
      by_cases h0 : 0 < h
      · go_wp2_with (go_at_call 54; refine (gives_b ha (l23Has_any _ _ _ _ l _ _ (hl.ext (by repeat (first | exact Ext.refl _ | refine Ext.alloc ?_ _ | assumption | refine Ext.over ?_ _ | refine Ext.drew ?_ | refine Ext.drewN ?_ _))) rfl hx)).over.mono ?_; rintro e w' ⟨rfl, xw, rfl⟩)
        go_ret
        rw [HB.out]
        exact ⟨_, _, _, rfl, own_ext HO.out (by repeat (first | exact Ext.refl _ | refine Ext.alloc ?_ _ | assumption | refine Ext.over ?_ _ | refine Ext.drew ?_ | refine Ext.drewN ?_ _)), by repeat (first | exact Ext.refl _ | refine Ext.alloc ?_ _ | assumption | refine Ext.over ?_ _ | refine Ext.drew ?_ | refine Ext.drewN ?_ _)⟩
      · go_wp2_with fail
        go_ret
        rw [HB.out]
        exact ⟨_, _, _, rfl, HO.out, by repeat (first | exact Ext.refl _ | refine Ext.alloc ?_ _ | assumption | refine Ext.over ?_ _ | refine Ext.drew ?_ | refine Ext.drewN ?_ _)⟩
  have HB := hid (doorsFrom_yes ha)
  obtain ⟨hk, a0, a1⟩ := hasHall_iff.1 ha
  obtain ⟨hdo, h1, h7, h12⟩ := houseOk_bounds hk
  obtain ⟨h, rfl⟩ : ∃ k : Nat, h = k := ⟨h.toNat, by omega⟩
  obtain ⟨x, rfl⟩ : ∃ k : Nat, x = k := ⟨x.toNat, by omega⟩
  have HD := hid hdo
  have HA := hid ha
  clear hk hdo ha
  obtain ⟨wb, hwb⟩ : ∃ wb, wb = w.alloc (.cells #[.int .i64 ↑h, .slice A l.length c] 26) := ⟨_, rfl⟩
  have hew : Ext w wb := by rw [hwb]; repeat (first | exact Ext.refl _ | refine Ext.alloc ?_ _ | assumption | refine Ext.over ?_ _ | refine Ext.drew ?_ | refine Ext.drewN ?_ _)
  have hsz := hid (show wb.heap.size = w.heap.size + 1 by rw [hwb]; simp)
  have hb0 : wb.cell? ⟨w.heap.size, 0, none⟩ = some (.int .i64 ↑h) := by rw [hwb]; go_simp
  have hb1 : wb.cell? ⟨w.heap.size, 1, none⟩ = some (.slice A l.length c) := by rw [hwb]; go_simp
  go_enter Try.func19, Try.ntmps19
  go_wp2_with fail
  go_loopw [5, 6] (fun o i wr => ∃ (k : Nat) (A' : Option Addr) (m' c' : Nat), k ≤ h ∧ m' ≤ k ∧ i = .int .i64 ↑k ∧ o = .slice A' m' c' ∧ wr.ownsRow wb.heap.size 3 1 (.slice A' m' c') m' ((idxs (fun i => hasD l x i) k).map (Value.int .i64)) ∧ Ext wb wr) (fun _ i _ => (h - (intOf i).toNat))
  case atStart =>
    refine ⟨0, _, _, _, by omega, by omega, rfl, rfl, by rw [hwb]; exact own_empty _ _ _ (by simp) (by simp) _ _, by rw [hwb]; repeat (first | exact Ext.refl _ | refine Ext.alloc ?_ _ | assumption | refine Ext.over ?_ _ | refine Ext.drew ?_ | refine Ext.drewN ?_ _)⟩
  clear hwb
  case round =>
    obtain ⟨k, A', m', c', hk, hm, rfl, rfl, hown, he⟩ := hrel
    obtain ⟨x0, rfl⟩ := he.ex
    have b0 := old_cell he hb0
    have b1 := old_cell he hb1
    have HO := hid hown
    have HR := hid (hl.ext (hew.trans he))
    have HS := hid (links_self HD.out (k := k) (x := x))
    clear hown he
    by_cases hlt : k < h
    · by_cases hkx : k = x
      · have hne : ((k : Int) != (x : Int)) = false := by rw [hkx]; simp
        have HI := hid (idxs_no (p := fun i => hasD l x i) (k := k) (by rw [← HS.out, decide_eq_false (by omega)]; rfl))
        clear hkx
        go_wp2_with (go_at_call 54; refine (gives_b HA.out (l23Has_any _ _ _ _ l _ _ (HR.out.ext (by repeat (first | exact Ext.refl _ | refine Ext.alloc ?_ _ | assumption | refine Ext.over ?_ _ | refine Ext.drew ?_ | refine Ext.drewN ?_ _))) rfl hx)).over.mono ?_; rintro e w' ⟨rfl, xw, rfl⟩)
        go_roundw
        case rel => exact ⟨k + 1, _, m', c', by omega, by omega, by go_num, rfl, by rw [HI.out]; exact own_ext HO.out (by repeat (first | exact Ext.refl _ | refine Ext.alloc ?_ _ | assumption | refine Ext.over ?_ _ | refine Ext.drew ?_ | refine Ext.drewN ?_ _)), by repeat (first | exact Ext.refl _ | refine Ext.alloc ?_ _ | assumption | refine Ext.over ?_ _ | refine Ext.drew ?_ | refine Ext.drewN ?_ _)⟩
        case measure => simp [intOf]; omega
      have hne : ((k : Int) != (x : Int)) = true := by rw [bne_iff_ne]; omega
      cases hdr : hasD l k x
      · have HI := hid (idxs_no (p := fun i => hasD l x i) (k := k) (by rw [← HS.out, hdr]; simp))
        go_wp2_with (first | (go_at_call 54; refine (gives_b HA.out (l23Has_any _ _ _ _ l _ _ (HR.out.ext (by repeat (first | exact Ext.refl _ | refine Ext.alloc ?_ _ | assumption | refine Ext.over ?_ _ | refine Ext.drew ?_ | refine Ext.drewN ?_ _))) rfl hx)).over.mono ?_; rintro e w' ⟨rfl, xw, rfl⟩) | (go_at_call 55; refine (gives_b hdr (l23Door_any _ _ _ _ l _ _ _ (HR.out.ext (by repeat (first | exact Ext.refl _ | refine Ext.alloc ?_ _ | assumption | refine Ext.over ?_ _ | refine Ext.drew ?_ | refine Ext.drewN ?_ _))) rfl hx)).over.mono ?_; rintro e w' ⟨rfl, xw, rfl⟩))
        go_roundw
        case rel => exact ⟨k + 1, _, m', c', by omega, by omega, by go_num, rfl, by rw [HI.out]; exact own_ext HO.out (by repeat (first | exact Ext.refl _ | refine Ext.alloc ?_ _ | assumption | refine Ext.over ?_ _ | refine Ext.drew ?_ | refine Ext.drewN ?_ _)), by repeat (first | exact Ext.refl _ | refine Ext.alloc ?_ _ | assumption | refine Ext.over ?_ _ | refine Ext.drew ?_ | refine Ext.drewN ?_ _)⟩
        case measure => simp [intOf]; omega
      · have HI := hid (idxs_yes (p := fun i => hasD l x i) (k := k) (by rw [← HS.out, hdr, decide_eq_true (by omega)]; rfl))
        go_wp2_with (first | (go_at_call 54; refine (gives_b HA.out (l23Has_any _ _ _ _ l _ _ (HR.out.ext (by repeat (first | exact Ext.refl _ | refine Ext.alloc ?_ _ | assumption | refine Ext.over ?_ _ | refine Ext.drew ?_ | refine Ext.drewN ?_ _))) rfl hx)).over.mono ?_; rintro e w' ⟨rfl, xw, rfl⟩) | (go_at_call 55; refine (gives_b hdr (l23Door_any _ _ _ _ l _ _ _ (HR.out.ext (by repeat (first | exact Ext.refl _ | refine Ext.alloc ?_ _ | assumption | refine Ext.over ?_ _ | refine Ext.drew ?_ | refine Ext.drewN ?_ _))) rfl hx)).over.mono ?_; rintro e w' ⟨rfl, xw, rfl⟩) | (at_builtin; refine wpList_push (wb) rfl (.tmp 28) (.tmp 30) 31 rfl 3 Try.underlying31 info_int rfl (by decide) _ m' _ rfl (ovr wb x0) HO.out (by repeat (first | exact Ext.refl _ | refine Ext.alloc ?_ _ | assumption | refine Ext.over ?_ _ | refine Ext.drew ?_ | refine Ext.drewN ?_ _)) (by repeat (first | exact Ext.refl _ | refine Ext.alloc ?_ _ | assumption | refine Ext.over ?_ _ | refine Ext.drew ?_ | refine Ext.drewN ?_ _)) _ 1 1 [.int .i64 (k)] rfl rfl (lit_cells _ _ (by first | (simp; done) | simp [ovr_size]) _ _) (by intro u hu; simp at hu; subst hu; rfl) (by omega) (by decide) ?_))
        intro A3 c3 w3 hown3 he3
        have HO3 := hid hown3
        clear hown3 HO
        go_wp2_with fail
        go_roundw
        case rel => exact ⟨k + 1, A3, m' + 1, c3, by omega, by omega, by go_num, rfl, by rw [HI.out]; simpa using HO3.out, he3⟩
        case measure => simp [intOf]; omega
    · go_wp2_with fail
      go_ret
      obtain rfl : k = h := by omega
      rw [HB.out, Int.toNat_natCast]
      exact ⟨_, _, _, rfl, own_base HO.out (by have := hsz.out; omega), hew.trans (by repeat (first | exact Ext.refl _ | refine Ext.alloc ?_ _ | assumption | refine Ext.over ?_ _ | refine Ext.drew ?_ | refine Ext.drewN ?_ _))⟩
end Go.Proofs.Ytngniniiohgilaa
