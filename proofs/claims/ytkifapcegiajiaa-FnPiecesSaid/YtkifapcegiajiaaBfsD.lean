/- Plain: a search in breadth as it grows (lists of nodes, their distances). No condition. -/
import Derived.Test.YtkifapcegiajiaaBfs
import Derived.Test.YtkifapcegiajiaaPush
namespace Go.Proofs.Ytkifapcegiajiaa
open Go.RowKit
set_option linter.unusedVariables false

theorem tree_of {n : Nat} {adj : Nat → Nat → Bool} {a k : Nat} (ha : a < n) (h : (bfs n adj a k).length ≤ k) : bfs n adj a k = tree n adj a := by
  have h1 : ∀ j, bfs n adj a (k + j) = bfs n adj a k := fun j => by
    induction j with
    | zero => rfl
    | succ j ih => rw [← Nat.add_assoc, bfs_stop (by rw [ih]; omega), ih]
  unfold tree
  rcases Nat.le_total k n with hk | hk
  · have := h1 (n - k)
    rw [show k + (n - k) = n by omega] at this
    exact this.symm
  · have h2 := bfs_len (adj := adj) ha n
    have h3 : ∀ j, bfs n adj a (n + j) = bfs n adj a n := fun j => by
      induction j with
      | zero => rfl
      | succ j ih => rw [← Nat.add_assoc, bfs_stop (by rw [ih]; omega), ih]
    have := h3 (k - n)
    rw [show n + (k - n) = k by omega] at this
    exact this
theorem bfs_depth {n : Nat} {adj : Nat → Nat → Bool} {a : Nat} : ∀ k i, i < (bfs n adj a k).length → (ndAt (bfs n adj a k) i).d ≤ i
  | 0, i, h => by
    obtain rfl : i = 0 := by simp [bfs] at h; exact h
    exact Nat.le_refl _
  | k + 1, i, h => by
    by_cases hk : k < (bfs n adj a k).length
    · rw [bfs_pre hk] at h ⊢
      rcases Nat.lt_or_ge i (bfs n adj a k).length with h1 | h1
      · rw [ndAt_app h1]; exact bfs_depth k i h1
      · have h2 := ndAt_right h1 h
        have h3 := (news_mem.1 h2).2.2.2.2
        have h4 := bfs_depth k k hk
        omega
    · rw [bfs_stop hk] at h ⊢; exact bfs_depth k i h
theorem depth_lt {n : Nat} {adj : Nat → Nat → Bool} {a k : Nat} (ha : a < n) {x : Nd} (hx : x ∈ bfs n adj a k) : x.d < n := by
  obtain ⟨i, hi, he⟩ := List.getElem_of_mem hx
  have h1 := bfs_depth k i hi
  rw [ndAt_eq _ _ hi, he] at h1
  have := bfs_len (adj := adj) ha k
  omega
/-- The way back, whole. -/
def Minus (q : Nat) (cs : List Value) : Prop := ∀ j, j < q → cs[j]? = some (.int .i64 (-1))
def distC (n : Nat) (L : List Nd) : List Value := (List.range n).map fun v => .int .i64 (distOf L v)
theorem distC_len (n : Nat) (L : List Nd) : (distC n L).length = n := by simp [distC]
theorem distC_get {n : Nat} {L : List Nd} {v : Nat} (h : v < n) : (distC n L)[v]? = some (.int .i64 (distOf L v)) := by simp [distC, h]
theorem distC_nil (n : Nat) : distC n [] = List.replicate n (.int .i64 (-1)) := by
  apply List.ext_getElem?
  intro j
  rcases Nat.lt_or_ge j n with h | h
  · rw [distC_get h]; simp [h, distOf]
  · rw [List.getElem?_eq_none (by rw [distC_len]; exact h), List.getElem?_eq_none (by simpa using h)]
theorem distOf_snoc {L : List Nd} {x : Nd} {v : Nat} (hs : seenIn L x.v = false) : distOf (L ++ [x]) v = if v = x.v then (x.d : Int) else distOf L v := by
  unfold distOf
  rw [List.find?_append]
  by_cases h : v = x.v
  · subst h
    rw [if_pos rfl, List.find?_eq_none.2]
    · simp
    · intro y hy e
      have : seenIn L x.v = true := seenIn_iff.2 ⟨y, hy, by simpa using e⟩
      rw [hs] at this; cases this
  · rw [if_neg h]
    have : ([x].find? fun y => y.v == v) = none := by simp; intro e; exact h e.symm
    rw [this]; simp
theorem distC_snoc {n : Nat} {L : List Nd} {x : Nd} (hs : seenIn L x.v = false) : distC n (L ++ [x]) = (distC n L).set x.v (.int .i64 x.d) := by
  apply List.ext_getElem?
  intro j
  rcases Nat.lt_or_ge j n with h | h
  · rw [distC_get h, distOf_snoc hs]
    by_cases hj : j = x.v
    · subst hj; rw [List.getElem?_set_self (by rw [distC_len]; exact h), if_pos rfl]
    · rw [List.getElem?_set_ne (fun e => hj e.symm), distC_get h, if_neg hj]
  · rw [List.getElem?_eq_none (by rw [distC_len]; exact h), List.getElem?_eq_none (by rw [List.length_set, distC_len]; exact h)]
theorem distOf_seen {L : List Nd} {v : Nat} (h : seenIn L v = true) : ∃ d : Nat, distOf L v = d := by
  obtain ⟨x, hx, he⟩ := seenIn_iff.1 h
  unfold distOf
  cases hf : L.find? (fun x => x.v == v) with
  | none => rw [List.find?_eq_none] at hf; exact absurd (by simpa using he) (hf x hx)
  | some y => exact ⟨y.d, rfl⟩
theorem news_zero (adj : Nat → Nat → Bool) (L : List Nd) (q : Nd) : news 0 adj L q = [] := rfl
theorem news_step (i : Nat) (adj : Nat → Nat → Bool) (L : List Nd) (q : Nd) : news (i + 1) adj L q = news i adj L q ++ if (!seenIn L i && adj i q.v) = true then [⟨i, q.v, q.d + 1⟩] else [] := by
  unfold news
  rw [List.range_succ, List.filter_append, List.map_append]
  congr 1
  cases h : (!seenIn L i && adj i q.v) <;> simp [h]
theorem news_seen (i : Nat) (adj : Nat → Nat → Bool) (L : List Nd) (q : Nd) : seenIn (L ++ news i adj L q) i = seenIn L i := by
  have : seenIn (news i adj L q) i = false := by
    cases hc : seenIn (news i adj L q) i with
    | false => rfl
    | true =>
      obtain ⟨x, hx, hv⟩ := seenIn_iff.1 hc
      have := (news_mem.1 hx).1
      omega
  unfold seenIn at this ⊢
  rw [List.any_append, this, Bool.or_false]
theorem news_len (i : Nat) (adj : Nat → Nat → Bool) (L : List Nd) (q : Nd) : (news i adj L q).length ≤ i := by
  unfold news
  rw [List.length_map]
  have := List.length_filter_le (fun i => !seenIn L i && adj i q.v) (List.range i)
  rwa [List.length_range] at this
theorem dist_len {n : Nat} {adj : Nat → Nat → Bool} {a : Nat} (L : List Nd) (h : tree n adj a = L) (v : Nat) : dist n adj a v = distOf L v := by unfold dist; rw [h]
theorem distOf_app {L M : List Nd} {v : Nat} (h : seenIn L v = true) : distOf (L ++ M) v = distOf L v := by
  obtain ⟨x, hx, he⟩ := seenIn_iff.1 h
  unfold distOf
  rw [List.find?_append]
  cases hf : L.find? (fun x => x.v == v) with
  | none => rw [List.find?_eq_none] at hf; exact absurd (by simpa using he) (hf x hx)
  | some y => rfl
def vn (L : List Nd) : List Value := L.map fun x => .int .i64 x.v
def vz (L : List Nd) : List Int := L.map fun x => (x.v : Int)
end Go.Proofs.Ytkifapcegiajiaa
