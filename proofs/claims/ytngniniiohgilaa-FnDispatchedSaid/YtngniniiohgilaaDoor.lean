/- Walks: doors and links. Conditions: sizes. -/
import Derived.Test.YtngniniiohgilaaHouse
namespace Go.Proofs.Ytngniniiohgilaa
open Go.RowKit
set_option linter.unusedVariables false

theorem isD_le {a b : Int} (h : a < b) (d : T2) : isD d a b = (d.a == a && d.b == b) := by unfold isD; rw [Int.min_eq_left (by omega), Int.max_eq_right (by omega)]
theorem isD_same {a : Int} (h : a = a) (d : T2) : isD d a a = (d.a == a && d.b == a) := by unfold isD; rw [Int.min_self, Int.max_self]
theorem isD_lt {a b : Int} (h : b < a) (d : T2) : isD d a b = (d.a == b && d.b == a) := by unfold isD; rw [Int.min_eq_right (by omega), Int.max_eq_left (by omega)]
theorem hasD_at {l : List T2} {a b : Int} {k : Nat} (hk : k < l.length) (h : isD (at2 l k) a b = true) : hasD l a b = true := by
  unfold hasD; rw [List.any_eq_true]; exact ⟨at2 l k, by rw [at2_eq _ _ hk]; exact List.getElem_mem hk, h⟩
theorem hasD_no {l : List T2} {a b : Int} (h : ∀ j, j < l.length → isD (at2 l j) a b = false) : hasD l a b = false := by
  unfold hasD; rw [List.any_eq_false]; intro d hd
  obtain ⟨j, hj, rfl⟩ := List.getElem_of_mem hd
  have := h j hj
  rw [at2_eq _ _ hj] at this
  simp [this]
set_option maxHeartbeats 1600000 in
theorem l23Door_le (h : Int) (A : Option Addr) (n c : Nat) (l : List T2) (a b : Int) (w : World) (hl : Row w A (l.flatMap T2.v)) (hn : l.length = n) (hx : n ≤ 1048577) (hab : a < b) :
    Gives Try.prog 55 #[.agg #[.int .i64 h, .slice A n c], .int .i64 a, .int .i64 b] w (.bool (hasD l a b)) := by
  subst hn
  have HD := hid (isD_le hab)
  (unfold Gives; go_enter Try.func55, Try.ntmps55)
  go_wp2_with fail
  go_loopw [7] (fun i wr => ∃ (k : Nat), (∀ j, j < k → isD (at2 l j) a b = false) ∧ k ≤ l.length ∧ i = .int .i64 ↑k ∧ Ext w wr ∧ wr.cell? ⟨w.heap.size, 1, none⟩ = some (.slice A l.length c)) (fun i _ => (l.length - (intOf i).toNat))
  case atStart => exact ⟨0, by omega, by omega, rfl, by repeat (first | exact Ext.refl _ | refine Ext.alloc ?_ _ | assumption | refine Ext.over ?_ _ | refine Ext.drew ?_ | refine Ext.drewN ?_ _), by go_simp⟩
  case round =>
    obtain ⟨k, hk, hkn, rfl, he, b1⟩ := hrel
    have HK := hid hk
    have HE := hid he
    have HR := hid (hl.ext he)
    clear hk he hl
    by_cases hlt : k < l.length
    · obtain ⟨b0, off, hA, hc⟩ := HR.out.t2 hlt
      subst hA
      obtain ⟨c1, c2⟩ := hc k hlt
      clear hc
      cases g1 : ((at2 l k).a == a)
      · have HB := hid (show isD (at2 l k) a b = false by rw [HD.out, g1]; rfl)
        go_wp2_with fail
        go_roundw
        case rel => exact ⟨k + 1, lt_succ_all HK.out HB.out, by omega, by go_num, HE.out.trans (by repeat (first | exact Ext.refl _ | refine Ext.alloc ?_ _ | assumption | refine Ext.over ?_ _ | refine Ext.drew ?_ | refine Ext.drewN ?_ _)), by go_simp⟩
        case measure => simp [intOf]; omega
      cases g2 : ((at2 l k).b == b)
      · have HB := hid (show isD (at2 l k) a b = false by rw [HD.out, g1, g2]; rfl)
        go_wp2_with fail
        go_roundw
        case rel => exact ⟨k + 1, lt_succ_all HK.out HB.out, by omega, by go_num, HE.out.trans (by repeat (first | exact Ext.refl _ | refine Ext.alloc ?_ _ | assumption | refine Ext.over ?_ _ | refine Ext.drew ?_ | refine Ext.drewN ?_ _)), by go_simp⟩
        case measure => simp [intOf]; omega
      · have HB := hid (hasD_at (a := a) (b := b) hlt (show isD (at2 l k) a b = true by rw [HD.out, g1, g2]; rfl))
        go_wp2_with fail
        go_ret
        exact ⟨by rw [HB.out]; rfl, HE.out.trans (by repeat (first | exact Ext.refl _ | refine Ext.alloc ?_ _ | assumption | refine Ext.over ?_ _ | refine Ext.drew ?_ | refine Ext.drewN ?_ _))⟩
    · have HB := hid (hasD_no (l := l) (a := a) (b := b) (fun j hj => HK.out j (by omega)))
      go_wp2_with fail
      go_ret
      exact ⟨by rw [HB.out]; rfl, HE.out.trans (by repeat (first | exact Ext.refl _ | refine Ext.alloc ?_ _ | assumption | refine Ext.over ?_ _ | refine Ext.drew ?_ | refine Ext.drewN ?_ _))⟩
set_option maxHeartbeats 1600000 in
theorem l23Door_lt (h : Int) (A : Option Addr) (n c : Nat) (l : List T2) (a b : Int) (w : World) (hl : Row w A (l.flatMap T2.v)) (hn : l.length = n) (hx : n ≤ 1048577) (hab : b < a) :
    Gives Try.prog 55 #[.agg #[.int .i64 h, .slice A n c], .int .i64 a, .int .i64 b] w (.bool (hasD l a b)) := by
  subst hn
  have HD := hid (isD_lt hab)
  (unfold Gives; go_enter Try.func55, Try.ntmps55)
  go_wp2_with fail
  go_loopw [7] (fun i wr => ∃ (k : Nat), (∀ j, j < k → isD (at2 l j) a b = false) ∧ k ≤ l.length ∧ i = .int .i64 ↑k ∧ Ext w wr ∧ wr.cell? ⟨w.heap.size, 1, none⟩ = some (.slice A l.length c)) (fun i _ => (l.length - (intOf i).toNat))
  case atStart => exact ⟨0, by omega, by omega, rfl, by repeat (first | exact Ext.refl _ | refine Ext.alloc ?_ _ | assumption | refine Ext.over ?_ _ | refine Ext.drew ?_ | refine Ext.drewN ?_ _), by go_simp⟩
  case round =>
    obtain ⟨k, hk, hkn, rfl, he, b1⟩ := hrel
    have HK := hid hk
    have HE := hid he
    have HR := hid (hl.ext he)
    clear hk he hl
    by_cases hlt : k < l.length
    · obtain ⟨b0, off, hA, hc⟩ := HR.out.t2 hlt
      subst hA
      obtain ⟨c1, c2⟩ := hc k hlt
      clear hc
      cases g1 : ((at2 l k).a == b)
      · have HB := hid (show isD (at2 l k) a b = false by rw [HD.out, g1]; rfl)
        go_wp2_with fail
        go_roundw
        case rel => exact ⟨k + 1, lt_succ_all HK.out HB.out, by omega, by go_num, HE.out.trans (by repeat (first | exact Ext.refl _ | refine Ext.alloc ?_ _ | assumption | refine Ext.over ?_ _ | refine Ext.drew ?_ | refine Ext.drewN ?_ _)), by go_simp⟩
        case measure => simp [intOf]; omega
      cases g2 : ((at2 l k).b == a)
      · have HB := hid (show isD (at2 l k) a b = false by rw [HD.out, g1, g2]; rfl)
        go_wp2_with fail
        go_roundw
        case rel => exact ⟨k + 1, lt_succ_all HK.out HB.out, by omega, by go_num, HE.out.trans (by repeat (first | exact Ext.refl _ | refine Ext.alloc ?_ _ | assumption | refine Ext.over ?_ _ | refine Ext.drew ?_ | refine Ext.drewN ?_ _)), by go_simp⟩
        case measure => simp [intOf]; omega
      · have HB := hid (hasD_at (a := a) (b := b) hlt (show isD (at2 l k) a b = true by rw [HD.out, g1, g2]; rfl))
        go_wp2_with fail
        go_ret
        exact ⟨by rw [HB.out]; rfl, HE.out.trans (by repeat (first | exact Ext.refl _ | refine Ext.alloc ?_ _ | assumption | refine Ext.over ?_ _ | refine Ext.drew ?_ | refine Ext.drewN ?_ _))⟩
    · have HB := hid (hasD_no (l := l) (a := a) (b := b) (fun j hj => HK.out j (by omega)))
      go_wp2_with fail
      go_ret
      exact ⟨by rw [HB.out]; rfl, HE.out.trans (by repeat (first | exact Ext.refl _ | refine Ext.alloc ?_ _ | assumption | refine Ext.over ?_ _ | refine Ext.drew ?_ | refine Ext.drewN ?_ _))⟩
set_option maxHeartbeats 1600000 in
theorem l23Door_eq (h : Int) (A : Option Addr) (n c : Nat) (l : List T2) (a : Int) (w : World) (hl : Row w A (l.flatMap T2.v)) (hn : l.length = n) (hx : n ≤ 1048577) (hab : a = a) :
    Gives Try.prog 55 #[.agg #[.int .i64 h, .slice A n c], .int .i64 a, .int .i64 a] w (.bool (hasD l a a)) := by
  subst hn
  have HD := hid (isD_same hab)
  (unfold Gives; go_enter Try.func55, Try.ntmps55)
  go_wp2_with fail
  go_loopw [7] (fun i wr => ∃ (k : Nat), (∀ j, j < k → isD (at2 l j) a a = false) ∧ k ≤ l.length ∧ i = .int .i64 ↑k ∧ Ext w wr ∧ wr.cell? ⟨w.heap.size, 1, none⟩ = some (.slice A l.length c)) (fun i _ => (l.length - (intOf i).toNat))
  case atStart => exact ⟨0, by omega, by omega, rfl, by repeat (first | exact Ext.refl _ | refine Ext.alloc ?_ _ | assumption | refine Ext.over ?_ _ | refine Ext.drew ?_ | refine Ext.drewN ?_ _), by go_simp⟩
  case round =>
    obtain ⟨k, hk, hkn, rfl, he, b1⟩ := hrel
    have HK := hid hk
    have HE := hid he
    have HR := hid (hl.ext he)
    clear hk he hl
    by_cases hlt : k < l.length
    · obtain ⟨b0, off, hA, hc⟩ := HR.out.t2 hlt
      subst hA
      obtain ⟨c1, c2⟩ := hc k hlt
      clear hc
      cases g1 : ((at2 l k).a == a)
      · have HB := hid (show isD (at2 l k) a a = false by rw [HD.out, g1]; rfl)
        go_wp2_with fail
        go_roundw
        case rel => exact ⟨k + 1, lt_succ_all HK.out HB.out, by omega, by go_num, HE.out.trans (by repeat (first | exact Ext.refl _ | refine Ext.alloc ?_ _ | assumption | refine Ext.over ?_ _ | refine Ext.drew ?_ | refine Ext.drewN ?_ _)), by go_simp⟩
        case measure => simp [intOf]; omega
      cases g2 : ((at2 l k).b == a)
      · have HB := hid (show isD (at2 l k) a a = false by rw [HD.out, g1, g2]; rfl)
        go_wp2_with fail
        go_roundw
        case rel => exact ⟨k + 1, lt_succ_all HK.out HB.out, by omega, by go_num, HE.out.trans (by repeat (first | exact Ext.refl _ | refine Ext.alloc ?_ _ | assumption | refine Ext.over ?_ _ | refine Ext.drew ?_ | refine Ext.drewN ?_ _)), by go_simp⟩
        case measure => simp [intOf]; omega
      · have HB := hid (hasD_at (a := a) (b := a) hlt (show isD (at2 l k) a a = true by rw [HD.out, g1, g2]; rfl))
        go_wp2_with fail
        go_ret
        exact ⟨by rw [HB.out]; rfl, HE.out.trans (by repeat (first | exact Ext.refl _ | refine Ext.alloc ?_ _ | assumption | refine Ext.over ?_ _ | refine Ext.drew ?_ | refine Ext.drewN ?_ _))⟩
    · have HB := hid (hasD_no (l := l) (a := a) (b := a) (fun j hj => HK.out j (by omega)))
      go_wp2_with fail
      go_ret
      exact ⟨by rw [HB.out]; rfl, HE.out.trans (by repeat (first | exact Ext.refl _ | refine Ext.alloc ?_ _ | assumption | refine Ext.over ?_ _ | refine Ext.drew ?_ | refine Ext.drewN ?_ _))⟩
theorem l23Door_any (h : Int) (A : Option Addr) (n c : Nat) (l : List T2) (a b : Int) (w : World) (hl : Row w A (l.flatMap T2.v)) (hn : l.length = n) (hx : n ≤ 1048577) :
    Gives Try.prog 55 #[.agg #[.int .i64 h, .slice A n c], .int .i64 a, .int .i64 b] w (.bool (hasD l a b)) := by
  by_cases h1 : a < b
  · exact l23Door_le h A n c l a b w hl hn hx h1
  · by_cases h2 : b < a
    · exact l23Door_lt h A n c l a b w hl hn hx h2
    · obtain rfl : a = b := by omega
      exact l23Door_eq h A n c l a w hl hn hx rfl

/-! ### The links of a hall -/
theorem lex_lt {l : List T2} {h : Int} (hf : doorsOk h l = true) {i j : Nat} (hij : i < j) (hj : j < l.length) : (at2 l i).a < (at2 l j).a ∨ (at2 l i).a = (at2 l j).a ∧ (at2 l i).b < (at2 l j).b := by
  have hs : ∀ k, k + 1 < l.length → (at2 l k).a < (at2 l (k + 1)).a ∨ (at2 l k).a = (at2 l (k + 1)).a ∧ (at2 l k).b < (at2 l (k + 1)).b := fun k hk => by
    have := allN_iff.1 hf (k + 1) hk
    unfold doorAt at this
    simp only [Bool.and_eq_true, Bool.not_eq_true'] at this
    have h2 : (decide ((at2 l (k + 1)).a < (at2 l k).a) || ((at2 l k).a == (at2 l (k + 1)).a && decide ((at2 l (k + 1)).b ≤ (at2 l k).b))) = false := this.2
    simp at h2
    omega
  induction j with
  | zero => omega
  | succ j ih =>
    have h1 := hs j hj
    rcases Nat.lt_or_ge i j with h | h
    · have := ih h (by omega); omega
    · obtain rfl : i = j := by omega
      exact h1
theorem isD_eq {d d' : T2} {a b : Int} (h : isD d a b = true) (h' : isD d' a b = true) : d.a = d'.a ∧ d.b = d'.b := by
  unfold isD at h h'
  simp only [Bool.and_eq_true, beq_iff_eq] at h h'
  omega
theorem once {l : List T2} {h a b : Int} (hf : doorsOk h l = true) {j : Nat} (hj : j < l.length) (hd : isD (at2 l j) a b = true) : (l.take j).any (fun d => isD d a b) = false := by
  rw [List.any_eq_false]
  intro d hd' hc
  obtain ⟨i, hi, rfl⟩ := List.getElem_of_mem hd'
  rw [List.length_take] at hi
  rw [List.getElem_take, ← at2_eq _ _ (by omega)] at hc
  have h1 := isD_eq hc hd
  have h2 := lex_lt hf (show i < j by omega) hj
  omega
/-- What has been collected: the halls below k, and k itself if one of the first j doors leads to it. -/
def linkTo (l : List T2) (x : Int) (k j : Nat) : List Int := idxs (fun i => hasD l x i) k ++ if (l.take j).any (fun d => isD d x k) then [(k : Int)] else []
theorem linkTo_zero (l : List T2) (x : Int) (k : Nat) : linkTo l x k 0 = idxs (fun i => hasD l x i) k := by simp [linkTo]
theorem linkTo_all {l : List T2} {x : Int} {k j : Nat} (h : l.length ≤ j) : linkTo l x k j = idxs (fun i => hasD l x i) (k + 1) := by
  unfold linkTo
  rw [List.take_of_length_le h]
  cases hd : hasD l x k
  · rw [idxs_no hd, show l.any (fun d => isD d x k) = false from hd]; simp
  · rw [idxs_yes hd, show l.any (fun d => isD d x k) = true from hd]; simp
theorem linkTo_no {l : List T2} {x : Int} {k j : Nat} (hj : j < l.length) (h : isD (at2 l j) x k = false) : linkTo l x k (j + 1) = linkTo l x k j := by
  unfold linkTo; rw [any_take hj, h, Bool.or_false]
theorem linkTo_yes {l : List T2} {x h : Int} {k j : Nat} (hf : doorsOk h l = true) (hj : j < l.length) (hd : isD (at2 l j) x k = true) : linkTo l x k (j + 1) = linkTo l x k j ++ [(k : Int)] := by
  unfold linkTo; rw [any_take hj, hd, once hf hj hd]; simp
theorem linkTo_len (l : List T2) (x : Int) (k j : Nat) : (linkTo l x k j).length ≤ k + 1 := by
  have := idxs_len (fun i => hasD l x i) k
  unfold linkTo
  split <;> simp <;> omega
end Go.Proofs.Ytngniniiohgilaa
