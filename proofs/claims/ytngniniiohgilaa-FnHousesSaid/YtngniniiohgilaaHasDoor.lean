/- Walks: HasDoor, DoorsFrom. Conditions: sizes. -/
import Derived.Test.YtngniniiohgilaaHall
import Derived.Test.YtngniniiohgilaaInts
namespace Go.Proofs.Ytngniniiohgilaa
open Go.RowKit
set_option linter.unusedVariables false

def idxD (l : List T2) (a b : Int) : Int := firstN l.length (fun k => a == (at2 l k).a && b == (at2 l k).b)
def memD (l : List T2) (a b : Int) : Bool := decide (0 ≤ idxD l a b)
set_option maxHeartbeats 1600000 in
theorem IndexD_any (A : Option Addr) (n c : Nat) (l : List T2) (a b : Int) (w : World) (hl : Row w A (l.flatMap T2.v)) (hn : l.length = n) (hx : n ≤ 1048577) :
    Gives Try.prog 73 #[.slice A n c, .agg #[.int .i64 a, .int .i64 b]] w (.int .i64 (idxD l a b)) := by
  subst hn
  unfold Gives
  go_enter Try.func73, Try.ntmps73
  go_wp2_with fail
  go_loopw [8] (fun i wr => ∃ (k : Nat), (∀ j, j < k → (a == (at2 l j).a && b == (at2 l j).b) = false) ∧ k ≤ l.length ∧ i = .int .i64 ↑k ∧ Ext w wr ∧ wr.cell? ⟨w.heap.size, 0, none⟩ = some (.int .i64 a) ∧ wr.cell? ⟨w.heap.size, 1, none⟩ = some (.int .i64 b)) (fun i _ => (l.length - (intOf i).toNat))
  case atStart => exact ⟨0, by omega, by omega, rfl, by repeat (first | exact Ext.refl _ | refine Ext.alloc ?_ _ | assumption | refine Ext.over ?_ _ | refine Ext.drew ?_ | refine Ext.drewN ?_ _), by go_simp, by go_simp⟩
  case round =>
    obtain ⟨k, hk, hkn, rfl, he, b0, b1⟩ := hrel
    have HK := hid hk
    have HE := hid he
    have HR := hid (hl.ext he)
    clear hk he hl
    by_cases hlt : k < l.length
    · obtain ⟨bA, off, hA, hc⟩ := HR.out.t2 hlt
      subst hA
      obtain ⟨c1, c2⟩ := hc k hlt
      clear hc
      cases g1 : (a == (at2 l k).a)
      · go_wp2_with fail
        go_region
        go_wp2_with fail
        go_roundw
        case rel => exact ⟨k + 1, lt_succ_all HK.out (by rw [g1]; rfl), by omega, by go_num, HE.out.trans (by repeat (first | exact Ext.refl _ | refine Ext.alloc ?_ _ | assumption | refine Ext.over ?_ _ | refine Ext.drew ?_ | refine Ext.drewN ?_ _)), by go_simp, by go_simp⟩
        case measure => simp [intOf]; omega
      cases g2 : (b == (at2 l k).b)
      · go_wp2_with fail
        go_region
        go_wp2_with fail
        go_roundw
        case rel => exact ⟨k + 1, lt_succ_all HK.out (by rw [g1, g2]; rfl), by omega, by go_num, HE.out.trans (by repeat (first | exact Ext.refl _ | refine Ext.alloc ?_ _ | assumption | refine Ext.over ?_ _ | refine Ext.drew ?_ | refine Ext.drewN ?_ _)), by go_simp, by go_simp⟩
        case measure => simp [intOf]; omega
      · have HH := hid (show idxD l a b = k by unfold idxD; exact firstN_hit HK.out hlt (by rw [g1, g2]; rfl))
        go_wp2_with fail
        go_region
        go_wp2_with fail
        go_ret
        exact ⟨by rw [HH.out]; rfl, HE.out.trans (by repeat (first | exact Ext.refl _ | refine Ext.alloc ?_ _ | assumption | refine Ext.over ?_ _ | refine Ext.drew ?_ | refine Ext.drewN ?_ _))⟩
    · go_wp2_with fail
      go_ret
      exact ⟨by rw [idxD, firstN_none (fun j hj => HK.out j (by omega))]; rfl, HE.out⟩
set_option maxHeartbeats 1600000 in
theorem ContainsD_any (A : Option Addr) (n c : Nat) (l : List T2) (a b : Int) (w : World) (hl : Row w A (l.flatMap T2.v)) (hn : l.length = n) (hx : n ≤ 1048577) :
    Gives Try.prog 45 #[.slice A n c, .agg #[.int .i64 a, .int .i64 b]] w (.bool (memD l a b)) := by
  unfold Gives memD
  go_enter Try.func45, Try.ntmps45
  go_wp2_with (go_at_call 73; refine (IndexD_any _ _ _ l _ _ _ (hl.ext (by repeat (first | exact Ext.refl _ | refine Ext.alloc ?_ _ | assumption | refine Ext.over ?_ _ | refine Ext.drew ?_ | refine Ext.drewN ?_ _))) hn hx).over.mono ?_; rintro e w' ⟨rfl, xw, rfl⟩)
  all_goals (go_ret; refine ⟨by first | rfl | (go_tidy; simp_all; done) | (go_tidy; simp at *; omega), ?_⟩; repeat (first | exact Ext.refl _ | refine Ext.alloc ?_ _ | assumption | refine Ext.over ?_ _ | refine Ext.drew ?_ | refine Ext.drewN ?_ _))
theorem memD_iff {l : List T2} {a b : Int} : memD l a b = true ↔ ∃ k, k < l.length ∧ a = (at2 l k).a ∧ b = (at2 l k).b := by
  unfold memD idxD
  rw [decide_eq_true_eq, firstN_nonneg]
  simp
theorem memD_has {l : List T2} {a b : Int} : memD l (min a b) (max a b) = hasD l a b := by
  rw [Bool.eq_iff_iff, memD_iff]
  unfold hasD
  rw [List.any_eq_true]
  constructor
  · rintro ⟨k, hk, h1, h2⟩
    refine ⟨at2 l k, by rw [at2_eq _ _ hk]; exact List.getElem_mem hk, ?_⟩
    unfold isD
    rw [← h1, ← h2]; simp
  · rintro ⟨d, hd, h⟩
    obtain ⟨k, hk, rfl⟩ := List.getElem_of_mem hd
    unfold isD at h
    simp only [Bool.and_eq_true, beq_iff_eq] at h
    exact ⟨k, hk, by rw [at2_eq _ _ hk]; exact h.1.symm, by rw [at2_eq _ _ hk]; exact h.2.symm⟩
def hasDoor (h : Int) (l : List T2) (a b : Int) : Bool := houseOk h l && hasD l a b
theorem hasD_self {h : Int} {l : List T2} {a : Int} (hf : doorsOk h l = true) : hasD l a a = false := by
  refine hasD_no fun j hj => ?_
  have h1 := allN_iff.1 hf j hj
  unfold doorAt at h1
  simp only [Bool.and_eq_true, Bool.not_eq_true'] at h1
  have h2 := h1.1
  unfold badD at h2
  simp only [Bool.or_eq_false_iff, decide_eq_false_iff_not] at h2
  unfold isD
  rw [Int.min_self, Int.max_self, Bool.and_eq_false_iff]
  rw [beq_eq_false_iff_ne, beq_eq_false_iff_ne]
  omega
set_option maxHeartbeats 1600000 in
theorem iHasDoor_any (h : Int) (A : Option Addr) (n c : Nat) (l : List T2) (a b : Int) (w : World) (hl : Row w A (l.flatMap T2.v)) (hn : l.length = n) (hx : n ≤ 1048577) :
    Gives Try.prog 12 #[.agg #[.int .i64 h, .slice A n c], .int .i64 a, .int .i64 b] w (.bool (hasDoor h l a b)) := by
  subst hn
  cases hk : houseOk h l
  · have HB := hid (show hasDoor h l a b = false by unfold hasDoor; rw [hk]; rfl)
    (unfold Gives; go_enter Try.func12, Try.ntmps12)
    go_wp2_with (go_at_call 15; refine (gives_b hk (iHouseOk_any _ _ _ _ l _ (hl.ext (by repeat (first | exact Ext.refl _ | refine Ext.alloc ?_ _ | assumption | refine Ext.over ?_ _ | refine Ext.drew ?_ | refine Ext.drewN ?_ _))) rfl hx)).over.mono ?_; rintro e w' ⟨rfl, xw, rfl⟩)
    go_ret
    exact ⟨by rw [HB.out]; rfl, by repeat (first | exact Ext.refl _ | refine Ext.alloc ?_ _ | assumption | refine Ext.over ?_ _ | refine Ext.drew ?_ | refine Ext.drewN ?_ _)⟩
  · have HB := hid (show hasDoor h l a b = memD l (min a b) (max a b) by unfold hasDoor; rw [hk, memD_has]; rfl)
    (unfold Gives; go_enter Try.func12, Try.ntmps12)
    go_wp2_with (first | (go_at_call 15; refine (gives_b hk (iHouseOk_any _ _ _ _ l _ (hl.ext (by repeat (first | exact Ext.refl _ | refine Ext.alloc ?_ _ | assumption | refine Ext.over ?_ _ | refine Ext.drew ?_ | refine Ext.drewN ?_ _))) rfl hx)).over.mono ?_; rintro e w' ⟨rfl, xw, rfl⟩) | (go_at_call 45; refine (ContainsD_any _ _ _ l _ _ _ (hl.ext (by repeat (first | exact Ext.refl _ | refine Ext.alloc ?_ _ | assumption | refine Ext.over ?_ _ | refine Ext.drew ?_ | refine Ext.drewN ?_ _))) rfl hx).over.mono ?_; rintro e w' ⟨rfl, xw, rfl⟩))
    all_goals
      go_ret
      refine ⟨?_, by repeat (first | exact Ext.refl _ | refine Ext.alloc ?_ _ | assumption | refine Ext.over ?_ _ | refine Ext.drew ?_ | refine Ext.drewN ?_ _)⟩
      rw [HB.out]
      first
        | (rw [show min a b = a by omega, show max a b = b by omega]; rfl)
        | (rw [show min a b = b by omega, show max a b = a by omega]; rfl)
        | (rw [show min a b = a by omega, show max a b = a by omega]; rfl)
        | (rw [show min a b = b by omega, show max a b = b by omega]; rfl)
set_option maxHeartbeats 1600000 in
theorem sHasDoor_any (h : Int) (A : Option Addr) (n c : Nat) (l : List T2) (a b : Int) (w : World) (hl : Row w A (l.flatMap T2.v)) (hn : l.length = n) (hx : n ≤ 1048577) :
    Gives Try.prog 30 #[.agg #[.int .i64 h, .slice A n c], .int .i64 a, .int .i64 b] w (.bool (hasDoor h l a b)) := by
  subst hn
  cases hk : houseOk h l
  · have HB := hid (show hasDoor h l a b = false by unfold hasDoor; rw [hk]; rfl)
    (unfold Gives; go_enter Try.func30, Try.ntmps30)
    go_wp2_with (go_at_call 64; refine (gives_b hk (sHouseOk_any _ _ _ _ l _ (hl.ext (by repeat (first | exact Ext.refl _ | refine Ext.alloc ?_ _ | assumption | refine Ext.over ?_ _ | refine Ext.drew ?_ | refine Ext.drewN ?_ _))) rfl hx)).over.mono ?_; rintro e w' ⟨rfl, xw, rfl⟩)
    go_ret
    exact ⟨by rw [HB.out]; rfl, by repeat (first | exact Ext.refl _ | refine Ext.alloc ?_ _ | assumption | refine Ext.over ?_ _ | refine Ext.drew ?_ | refine Ext.drewN ?_ _)⟩
  obtain ⟨hd, -, -, -⟩ := houseOk_bounds hk
  by_cases hab : a = b
  · subst hab
    have HB := hid (show hasDoor h l a a = false by unfold hasDoor; rw [hasD_self hd]; simp)
    clear hd
    (unfold Gives; go_enter Try.func30, Try.ntmps30)
    go_wp2_with (go_at_call 64; refine (gives_b hk (sHouseOk_any _ _ _ _ l _ (hl.ext (by repeat (first | exact Ext.refl _ | refine Ext.alloc ?_ _ | assumption | refine Ext.over ?_ _ | refine Ext.drew ?_ | refine Ext.drewN ?_ _))) rfl hx)).over.mono ?_; rintro e w' ⟨rfl, xw, rfl⟩)
    go_ret
    exact ⟨by rw [HB.out]; rfl, by repeat (first | exact Ext.refl _ | refine Ext.alloc ?_ _ | assumption | refine Ext.over ?_ _ | refine Ext.drew ?_ | refine Ext.drewN ?_ _)⟩
  · have HB := hid (show hasDoor h l a b = (a != b && hasD l a b) by unfold hasDoor; rw [hk, bne_iff_ne.2 hab])
    clear hd
    (unfold Gives; go_enter Try.func30, Try.ntmps30)
    go_wp2_with (first | (go_at_call 64; refine (gives_b hk (sHouseOk_any _ _ _ _ l _ (hl.ext (by repeat (first | exact Ext.refl _ | refine Ext.alloc ?_ _ | assumption | refine Ext.over ?_ _ | refine Ext.drew ?_ | refine Ext.drewN ?_ _))) rfl hx)).over.mono ?_; rintro e w' ⟨rfl, xw, rfl⟩) | (go_at_call 55; refine (l23Door_any _ _ _ _ l _ _ _ (hl.ext (by repeat (first | exact Ext.refl _ | refine Ext.alloc ?_ _ | assumption | refine Ext.over ?_ _ | refine Ext.drew ?_ | refine Ext.drewN ?_ _))) rfl hx).over.mono ?_; rintro e w' ⟨rfl, xw, rfl⟩))
    go_ret
    exact ⟨by rw [HB.out]; rfl, by repeat (first | exact Ext.refl _ | refine Ext.alloc ?_ _ | assumption | refine Ext.over ?_ _ | refine Ext.drew ?_ | refine Ext.drewN ?_ _)⟩
end Go.Proofs.Ytngniniiohgilaa
