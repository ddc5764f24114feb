/- Plain law: a drawn house is valid. No condition. -/
import Derived.Test.YtngniniiohgilaaHas
namespace Go.Proofs.Ytngniniiohgilaa
open Go.RowKit
set_option linter.unusedVariables false

/-- The doors of row a below column b, and of the whole. -/
def rowTo (S : List Nat) (a b : Nat) : List T2 := ((List.range b).filter fun j => decide (a < j) && S.contains (a * 7 + j)).map fun (j : Nat) => ⟨(a : Int), (j : Int)⟩
def doorsTo (S : List Nat) (h : Nat) : Nat → List T2
  | 0 => []
  | a + 1 => doorsTo S h a ++ rowTo S a h
theorem rowTo_start (S : List Nat) (a : Nat) : rowTo S a (a + 1) = [] := by
  unfold rowTo
  rw [List.map_eq_nil_iff, List.filter_eq_nil_iff]
  intro j hj
  rw [List.mem_range] at hj
  rw [decide_eq_false (by omega)]
  simp
theorem rowTo_yes {S : List Nat} {a b : Nat} (hab : a < b) (h : S.contains (a * 7 + b) = true) : rowTo S a (b + 1) = rowTo S a b ++ [⟨(a : Int), (b : Int)⟩] := by
  unfold rowTo
  rw [List.range_succ, List.filter_append, List.map_append]
  simp only [List.filter_cons, List.filter_nil, h, decide_eq_true hab, Bool.and_self, if_true, List.map_cons, List.map_nil]
theorem rowTo_no {S : List Nat} {a b : Nat} (h : S.contains (a * 7 + b) = false) : rowTo S a (b + 1) = rowTo S a b := by
  unfold rowTo
  rw [List.range_succ, List.filter_append, List.map_append]
  simp only [List.filter_cons, List.filter_nil, h, Bool.and_false, Bool.false_eq_true, if_false, List.map_nil, List.append_nil]
theorem rowTo_len (S : List Nat) (a b : Nat) : (rowTo S a b).length ≤ b := by
  unfold rowTo
  rw [List.length_map]
  have := List.length_filter_le (fun j => decide (a < j) && S.contains (a * 7 + j)) (List.range b)
  simpa using this
theorem doorsTo_len (S : List Nat) {h : Nat} (h7 : h ≤ 7) : ∀ a, (doorsTo S h a).length ≤ a * 7
  | 0 => by simp [doorsTo]
  | a + 1 => by
    have h1 := doorsTo_len S h7 a
    have h2 := rowTo_len S a h
    show (doorsTo S h a ++ rowTo S a h).length ≤ _
    rw [List.length_append]
    omega
theorem rowTo_mem {S : List Nat} {a b : Nat} {d : T2} : d ∈ rowTo S a b ↔ ∃ j, j < b ∧ a < j ∧ S.contains (a * 7 + j) = true ∧ d = ⟨(a : Int), (j : Int)⟩ := by
  unfold rowTo
  simp only [List.mem_map, List.mem_filter, List.mem_range, Bool.and_eq_true, decide_eq_true_eq]
  constructor
  · rintro ⟨j, ⟨h1, h2, h3⟩, rfl⟩; exact ⟨j, h1, h2, h3, rfl⟩
  · rintro ⟨j, h1, h2, h3, rfl⟩; exact ⟨j, ⟨h1, h2, h3⟩, rfl⟩
theorem doorsTo_mem {S : List Nat} {h : Nat} {d : T2} : ∀ {a : Nat}, d ∈ doorsTo S h a ↔ ∃ i j, i < a ∧ j < h ∧ i < j ∧ S.contains (i * 7 + j) = true ∧ d = ⟨(i : Int), (j : Int)⟩
  | 0 => by simp [doorsTo]
  | a + 1 => by
    show d ∈ doorsTo S h a ++ rowTo S a h ↔ _
    rw [List.mem_append, doorsTo_mem, rowTo_mem]
    constructor
    · rintro (⟨i, j, h1, h2, h3, h4, h5⟩ | ⟨j, h1, h2, h3, h4⟩)
      · exact ⟨i, j, by omega, h2, h3, h4, h5⟩
      · exact ⟨a, j, by omega, h1, h2, h3, h4⟩
    · rintro ⟨i, j, h1, h2, h3, h4, h5⟩
      rcases Nat.lt_or_ge i a with h6 | h6
      · exact .inl ⟨i, j, h6, h2, h3, h4, h5⟩
      · obtain rfl : i = a := by omega
        exact .inr ⟨j, h2, h3, h4, h5⟩
def lexLt (x y : T2) : Prop := x.a < y.a ∨ x.a = y.a ∧ x.b < y.b
theorem rowTo_sorted (S : List Nat) (a : Nat) : ∀ b, (rowTo S a b).Pairwise lexLt
  | 0 => by simp [rowTo]
  | b + 1 => by
    unfold rowTo
    rw [List.pairwise_map]
    refine List.Pairwise.filter _ ?_
    refine List.Pairwise.imp ?_ List.pairwise_lt_range
    intro x y hxy
    exact .inr ⟨rfl, by show (x : Int) < y; omega⟩
theorem doorsTo_sorted (S : List Nat) (h : Nat) : ∀ a, (doorsTo S h a).Pairwise lexLt
  | 0 => by simp [doorsTo]
  | a + 1 => by
    show (doorsTo S h a ++ rowTo S a h).Pairwise lexLt
    rw [List.pairwise_append]
    refine ⟨doorsTo_sorted S h a, rowTo_sorted S a h, fun x hx y hy => ?_⟩
    obtain ⟨i, j, h1, _, _, _, rfl⟩ := doorsTo_mem.1 hx
    obtain ⟨j', _, _, _, rfl⟩ := rowTo_mem.1 hy
    exact .inl (by show (i : Int) < a; omega)
/-- Every hall but the first has a door to one before it; nothing else than doors of the house. -/
structure Plan (h : Nat) (S : List Nat) : Prop where
  pos : 1 ≤ h
  le : h ≤ 7
  tree : ∀ j, 1 ≤ j → j < h → ∃ p, p < j ∧ S.contains (p * 7 + j) = true
  few : S.length ≤ 12
theorem Plan.ok {h : Nat} {S : List Nat} (p : Plan h S) : houseOk h (doorsTo S h h) = true := by
  have hlen : (doorsTo S h h).length ≤ 12 := by
    have hp := p.few
    have hnd : ((doorsTo S h h).map fun d => (d.a * 7 + d.b).toNat).Nodup := by
      unfold List.Nodup
      rw [List.pairwise_map]
      refine List.Pairwise.imp_of_mem (R := lexLt) ?_ (doorsTo_sorted S h h)
      intro x y hx hy hxy
      obtain ⟨i, j, h1, h2, h3, _, rfl⟩ := doorsTo_mem.1 hx
      obtain ⟨i', j', h1', h2', h3', _, rfl⟩ := doorsTo_mem.1 hy
      have := p.le
      unfold lexLt at hxy
      simp only at hxy
      show ((i : Int) * 7 + j).toNat ≠ ((i' : Int) * 7 + j').toNat
      omega
    have hsub := List.Nodup.length_le_of_subset hnd (l₂ := S) (fun x hx => by
      obtain ⟨d, hd, rfl⟩ := List.mem_map.1 hx
      obtain ⟨i, j, h1, h2, h3, h4, rfl⟩ := doorsTo_mem.1 hd
      rw [List.contains_iff_mem] at h4
      have : ((i : Int) * 7 + j).toNat = i * 7 + j := by omega
      show ((i : Int) * 7 + j).toNat ∈ S
      rw [this]; exact h4)
    rw [List.length_map] at hsub
    omega
  have hform : form h (doorsTo S h h) = true := by
    unfold form
    rw [Bool.and_eq_true, Bool.and_eq_true]
    refine ⟨?_, btw_iff.2 ⟨by have := p.pos; omega, by have := p.le; omega⟩, decide_eq_true hlen⟩
    unfold doorsOk
    rw [allN_iff]
    intro k hk
    unfold doorAt
    have hm : at2 (doorsTo S h h) k ∈ doorsTo S h h := by rw [at2_eq _ _ hk]; exact List.getElem_mem hk
    obtain ⟨i, j, h1, h2, h3, _, he⟩ := doorsTo_mem.1 hm
    rw [Bool.and_eq_true, Bool.not_eq_true', Bool.not_eq_true']
    constructor
    · unfold badD
      rw [he]
      simp only [Bool.or_eq_false_iff, decide_eq_false_iff_not]
      omega
    · match k, hk with
      | 0, _ => rfl
      | k + 1, hk =>
        have hs := List.pairwise_iff_getElem.1 (doorsTo_sorted S h h) k (k + 1) (by omega) hk (by omega)
        rw [← at2_eq _ _ (by omega), ← at2_eq _ _ hk] at hs
        show (decide _ || (_ && decide _)) = false
        unfold lexLt at hs
        rw [Bool.or_eq_false_iff, decide_eq_false_iff_not, Bool.and_eq_false_iff, beq_eq_false_iff_ne, decide_eq_false_iff_not]
        omega
  rw [houseOk_yes hform]
  have h0 : 0 < h := p.pos
  refine allN_true fun k hk => ?_
  unfold reach
  rw [decide_eq_true_eq]
  induction k using Nat.strongRecOn with
  | _ k ih =>
    rcases Nat.eq_zero_or_pos k with rfl | hk0
    · rw [dist_self h0]; exact Int.le_refl _
    · obtain ⟨q, hq, hs⟩ := p.tree k hk0 hk
      have hw := dist_way h0 (ih q hq (by omega))
      refine (dist_le h0 (Way.snoc hw hk ?_)).1
      show hasD _ _ _ = true
      unfold hasD
      rw [List.any_eq_true]
      refine ⟨⟨(q : Int), (k : Int)⟩, doorsTo_mem.2 ⟨q, k, by omega, hk, hq, hs, rfl⟩, ?_⟩
      unfold isD
      simp only [Bool.and_eq_true, beq_iff_eq]
      omega
/-! ### The cells that say which doors there are -/
def wcs (S : List Nat) : List Value := (List.range 49).map fun i => Value.bool (S.contains i)
theorem wcs_len (S : List Nat) : (wcs S).length = 49 := by simp [wcs]
theorem wcs_get {S : List Nat} {i : Nat} (h : i < 49) : (wcs S)[i]? = some (.bool (S.contains i)) := by simp [wcs, h]
theorem wcs_nil : wcs [] = List.replicate 49 (.bool false) := rfl
theorem wcs_set {S : List Nat} {i : Nat} (h : i < 49) : (wcs S).set i (.bool true) = wcs (i :: S) := by
  apply List.ext_getElem?
  intro j
  by_cases hj : j < 49
  · rw [wcs_get hj]
    by_cases hij : i = j
    · subst hij
      rw [List.getElem?_set_self (by rw [wcs_len]; exact h)]
      simp
    · rw [List.getElem?_set_ne hij, wcs_get hj]
      congr 2
      simp only [List.contains_cons]
      rw [show (j == i) = false from beq_eq_false_iff_ne.2 (fun e => hij e.symm), Bool.false_or]
  · rw [List.getElem?_eq_none (by rw [List.length_set, wcs_len]; omega), List.getElem?_eq_none (by rw [wcs_len]; omega)]
end Go.Proofs.Ytngniniiohgilaa
