/- Plain law: searching a graph in breadth finds the distances. No condition. -/
import Derived.Test.YtkifapcegiajiaaRow
namespace Go.Proofs.Ytkifapcegiajiaa
set_option linter.unusedVariables false

/-- A hall that has been reached: its number, the hall before it, its distance. -/
structure Nd where
  v : Nat
  p : Nat
  d : Nat
deriving Inhabited
def ndAt (L : List Nd) (k : Nat) : Nd := L.getD k ⟨0, 0, 0⟩
theorem ndAt_eq (L : List Nd) (k : Nat) (h : k < L.length) : ndAt L k = L[k] := by simp [ndAt, List.getD, h]
def seenIn (L : List Nd) (i : Nat) : Bool := L.any fun x => x.v == i
theorem seenIn_iff {L : List Nd} {i : Nat} : seenIn L i = true ↔ ∃ x ∈ L, x.v = i := by unfold seenIn; simp
def news (n : Nat) (adj : Nat → Nat → Bool) (L : List Nd) (q : Nd) : List Nd := ((List.range n).filter fun i => !seenIn L i && adj i q.v).map fun i => ⟨i, q.v, q.d + 1⟩
theorem news_mem {n : Nat} {adj : Nat → Nat → Bool} {L : List Nd} {q x : Nd} : x ∈ news n adj L q ↔ x.v < n ∧ seenIn L x.v = false ∧ adj x.v q.v = true ∧ x.p = q.v ∧ x.d = q.d + 1 := by
  unfold news
  simp only [List.mem_map, List.mem_filter, List.mem_range, Bool.and_eq_true, Bool.not_eq_true']
  constructor
  · rintro ⟨i, ⟨h1, h2, h3⟩, rfl⟩; exact ⟨h1, h2, h3, rfl, rfl⟩
  · rintro ⟨h1, h2, h3, h4, h5⟩; exact ⟨x.v, ⟨h1, h2, h3⟩, by cases x; simp_all⟩
def bfs (n : Nat) (adj : Nat → Nat → Bool) (a : Nat) : Nat → List Nd
  | 0 => [⟨a, a, 0⟩]
  | k + 1 => if k < (bfs n adj a k).length then bfs n adj a k ++ news n adj (bfs n adj a k) (ndAt (bfs n adj a k) k) else bfs n adj a k
section
variable {n : Nat} {adj : Nat → Nat → Bool} {a : Nat}
theorem bfs_pre {k : Nat} (h : k < (bfs n adj a k).length) : bfs n adj a (k + 1) = bfs n adj a k ++ news n adj (bfs n adj a k) (ndAt (bfs n adj a k) k) := by
  show (if _ then _ else _) = _
  rw [if_pos h]
theorem bfs_stop {k : Nat} (h : ¬ k < (bfs n adj a k).length) : bfs n adj a (k + 1) = bfs n adj a k := by
  show (if _ then _ else _) = _
  rw [if_neg h]
/-- What holds after k rounds. -/
structure Inv (n : Nat) (adj : Nat → Nat → Bool) (a k : Nat) (L : List Nd) : Prop where
  pos : 0 < L.length
  root : ndAt L 0 = ⟨a, a, 0⟩
  nodup : (L.map (·.v)).Nodup
  lt : ∀ x ∈ L, x.v < n
  mono : L.Pairwise fun x y => x.d ≤ y.d
  near : k < L.length → ∀ x ∈ L, x.d ≤ (ndAt L k).d + 1
  par : ∀ x ∈ L, x.d = 0 ∧ x.v = a ∧ x.p = a ∨ ∃ y ∈ L, y.v = x.p ∧ x.d = y.d + 1 ∧ adj x.v x.p = true
  done : ∀ j, j < k → j < L.length → ∀ i, i < n → adj i (ndAt L j).v = true → ∃ x ∈ L, x.v = i ∧ x.d ≤ (ndAt L j).d + 1
theorem ndAt_app {L M : List Nd} {j : Nat} (h : j < L.length) : ndAt (L ++ M) j = ndAt L j := by
  rw [ndAt_eq _ _ h, ndAt_eq _ _ (by rw [List.length_append]; omega), List.getElem_append_left h]
theorem ndAt_mem {L : List Nd} {k : Nat} (h : k < L.length) : ndAt L k ∈ L := by rw [ndAt_eq _ _ h]; exact List.getElem_mem h
theorem ndAt_right {L M : List Nd} {k : Nat} (h : L.length ≤ k) (hk : k < (L ++ M).length) : ndAt (L ++ M) k ∈ M := by
  rw [ndAt_eq _ _ hk, List.getElem_append_right h]; exact List.getElem_mem _
theorem bfs_inv (ha : a < n) : ∀ k, Inv n adj a k (bfs n adj a k)
  | 0 => ⟨by simp [bfs], rfl, by simp [bfs], by simp [bfs]; exact ha, by simp [bfs], by simp [bfs], by simp [bfs], by omega⟩
  | k + 1 => by
    have ih := bfs_inv ha k
    by_cases h : k < (bfs n adj a k).length
    · rw [bfs_pre h]
      obtain ⟨L, hL⟩ : ∃ L, L = bfs n adj a k := ⟨_, rfl⟩
      rw [← hL] at ih h ⊢
      have hq := ndAt_mem h
      have hnd : ∀ x ∈ news n adj L (ndAt L k), x.d = (ndAt L k).d + 1 := fun x hx => (news_mem.1 hx).2.2.2.2
      refine ⟨by rw [List.length_append]; have := ih.pos; omega, by rw [ndAt_app ih.pos]; exact ih.root, ?_, ?_, ?_, ?_, ?_, ?_⟩
      · rw [List.map_append, List.nodup_append]
        refine ⟨ih.nodup, ?_, ?_⟩
        · unfold news
          rw [List.map_map]
          have : ((fun x : Nd => x.v) ∘ fun i => (⟨i, (ndAt L k).v, (ndAt L k).d + 1⟩ : Nd)) = id := rfl
          rw [this, List.map_id]
          exact (List.nodup_range).filter _
        · intro x hx y hy e
          obtain ⟨u, hu, rfl⟩ := List.mem_map.1 hx
          obtain ⟨z, hz, rfl⟩ := List.mem_map.1 hy
          have := (news_mem.1 hz).2.1
          rw [← e] at this
          have h2 : seenIn L u.v = true := seenIn_iff.2 ⟨u, hu, rfl⟩
          rw [h2] at this
          cases this
      · intro x hx
        rcases List.mem_append.1 hx with hx | hx
        · exact ih.lt x hx
        · exact (news_mem.1 hx).1
      · rw [List.pairwise_append]
        refine ⟨ih.mono, ?_, fun x hx y hy => by rw [hnd y hy]; exact ih.near h x hx⟩
        exact List.pairwise_iff_forall_sublist.2 fun {x y} hs => by
          have h1 := hnd x (hs.subset (by simp))
          have h2 := hnd y (hs.subset (by simp))
          omega
      · intro hk x hx
        have hge : (ndAt L k).d ≤ (ndAt (L ++ news n adj L (ndAt L k)) (k + 1)).d := by
          rcases Nat.lt_or_ge (k + 1) L.length with h' | h'
          · rw [ndAt_app h', ndAt_eq _ _ h, ndAt_eq _ _ h']
            exact List.pairwise_iff_getElem.1 ih.mono k (k + 1) h h' (by omega)
          · have := hnd _ (ndAt_right h' hk)
            omega
        rcases List.mem_append.1 hx with hx | hx
        · have := ih.near h x hx; omega
        · have := hnd x hx; omega
      · intro x hx
        rcases List.mem_append.1 hx with hx | hx
        · rcases ih.par x hx with h1 | ⟨y, h1, h2⟩
          · exact .inl h1
          · exact .inr ⟨y, by simp [h1], h2⟩
        · obtain ⟨_, _, h3, h4, h5⟩ := news_mem.1 hx
          exact .inr ⟨ndAt L k, by simp [hq], h4.symm, h5, by rw [h4]; exact h3⟩
      · intro j hj hjl i hi hadj
        rcases Nat.lt_or_ge j k with h' | h'
        · rw [ndAt_app (by omega)] at hadj ⊢
          obtain ⟨x, h1, h2⟩ := ih.done j h' (by omega) i hi hadj
          exact ⟨x, by simp [h1], h2⟩
        · obtain rfl : j = k := by omega
          rw [ndAt_app h] at hadj ⊢
          cases hs : seenIn L i
          · exact ⟨⟨i, (ndAt L j).v, (ndAt L j).d + 1⟩, by simp only [List.mem_append]; exact .inr (news_mem.2 ⟨hi, hs, hadj, rfl, rfl⟩), rfl, Nat.le_refl _⟩
          · obtain ⟨x, hx, e⟩ := seenIn_iff.1 hs
            exact ⟨x, by simp [hx], e, ih.near h x hx⟩
    · rw [bfs_stop h]
      exact ⟨ih.pos, ih.root, ih.nodup, ih.lt, ih.mono, fun hk => absurd hk (by omega), ih.par, fun j hj hjl => ih.done j (by omega) hjl⟩
theorem nodup_bound {l : List Nat} (hd : l.Nodup) (hlt : ∀ x ∈ l, x < n) : l.length ≤ n := by
  have h := List.Nodup.length_le_of_subset hd (l₂ := List.range n) (fun x hx => by simpa using hlt x hx)
  simpa using h
theorem bfs_len (ha : a < n) (k : Nat) : (bfs n adj a k).length ≤ n := by
  have ih := bfs_inv (adj := adj) ha k
  have := nodup_bound (n := n) ih.nodup (fun x hx => by obtain ⟨y, hy, rfl⟩ := List.mem_map.1 hx; exact ih.lt y hy)
  simpa using this
/-- A way of m steps. -/
inductive Way (n : Nat) (adj : Nat → Nat → Bool) (a : Nat) : Nat → Nat → Prop
  | nil : Way n adj a 0 a
  | snoc {m u v : Nat} : Way n adj a m u → v < n → adj v u = true → Way n adj a (m + 1) v
def tree (n : Nat) (adj : Nat → Nat → Bool) (a : Nat) : List Nd := bfs n adj a n
/-- The distance, or -1. -/
def distOf (L : List Nd) (v : Nat) : Int := match L.find? (fun x => x.v == v) with | some x => (x.d : Int) | none => -1
theorem distOf_mem {L : List Nd} (hd : (L.map (·.v)).Nodup) {x : Nd} (hx : x ∈ L) : distOf L x.v = x.d := by
  unfold distOf
  cases h : L.find? (fun y => y.v == x.v) with
  | none =>
    rw [List.find?_eq_none] at h
    exact absurd (by simp) (h x hx)
  | some y =>
    have h1 := List.mem_of_find?_eq_some h
    have h2 : y.v = x.v := by simpa using List.find?_some h
    have : y = x := by
      induction L with
      | nil => cases hx
      | cons z L ih =>
        rw [List.map_cons, List.nodup_cons] at hd
        rcases List.mem_cons.1 hx with rfl | hx' <;> rcases List.mem_cons.1 h1 with rfl | h1'
        · rfl
        · exact absurd (List.mem_map.2 ⟨y, h1', h2⟩) hd.1
        · exact absurd (List.mem_map.2 ⟨x, hx', h2.symm⟩) hd.1
        · by_cases hz : z.v = x.v
          · exact absurd (List.mem_map.2 ⟨x, hx', hz.symm⟩) hd.1
          · exact ih hd.2 hx' (by rwa [List.find?_cons_of_neg (by simpa using hz)] at h) h1'
    rw [this]
theorem distOf_none {L : List Nd} {v : Nat} (h : seenIn L v = false) : distOf L v = -1 := by
  unfold distOf
  rw [List.find?_eq_none.2]
  intro x hx e
  have : seenIn L v = true := seenIn_iff.2 ⟨x, hx, by simpa using e⟩
  rw [h] at this
  cases this
theorem way_of_mem (ha : a < n) (k : Nat) : ∀ (m : Nat) (x : Nd), x ∈ bfs n adj a k → x.d = m → Way n adj a m x.v := by
  have ih := bfs_inv (adj := adj) ha k
  intro m
  induction m with
  | zero =>
    intro x hx hd
    rcases ih.par x hx with ⟨_, h, _⟩ | ⟨y, _, _, h, _⟩
    · rw [h]; exact .nil
    · omega
  | succ m hm =>
    intro x hx hd
    rcases ih.par x hx with ⟨h, _⟩ | ⟨y, h1, h2, h3, h4⟩
    · omega
    · exact .snoc (hm y h1 (by omega)) (ih.lt x hx) (by rw [h2]; exact h4)
theorem mem_of_way (ha : a < n) {m v : Nat} (h : Way n adj a m v) : ∃ x ∈ tree n adj a, x.v = v ∧ x.d ≤ m := by
  have ih := bfs_inv (adj := adj) ha n
  have hl := bfs_len (adj := adj) ha n
  induction h with
  | nil => exact ⟨ndAt (tree n adj a) 0, ndAt_mem ih.pos, by rw [show tree n adj a = bfs n adj a n from rfl, ih.root], by rw [show tree n adj a = bfs n adj a n from rfl, ih.root]; exact Nat.le_refl _⟩
  | @snoc m u v hw hv hadj hrec =>
    obtain ⟨y, h1, h2, h3⟩ := hrec
    obtain ⟨j, hj, e⟩ := List.getElem_of_mem h1
    have hj' : j < (bfs n adj a n).length := hj
    obtain ⟨x, h4, h5, h6⟩ := ih.done j (by omega) hj' v hv (by rw [ndAt_eq _ _ hj']; rw [show (bfs n adj a n)[j] = y from e, h2]; exact hadj)
    rw [ndAt_eq _ _ hj', show (bfs n adj a n)[j] = y from e] at h6
    exact ⟨x, h4, h5, by omega⟩
def dist (n : Nat) (adj : Nat → Nat → Bool) (a v : Nat) : Int := distOf (tree n adj a) v
theorem dist_le (ha : a < n) {m v : Nat} (h : Way n adj a m v) : 0 ≤ dist n adj a v ∧ dist n adj a v ≤ m := by
  obtain ⟨x, h1, rfl, h3⟩ := mem_of_way ha h
  unfold dist
  rw [distOf_mem (L := tree n adj a) (bfs_inv (adj := adj) ha n).nodup h1]
  omega
theorem dist_way (ha : a < n) {v : Nat} (h : 0 ≤ dist n adj a v) : Way n adj a (dist n adj a v).toNat v := by
  unfold dist at *
  cases hs : seenIn (tree n adj a) v
  · rw [distOf_none hs] at h; omega
  · obtain ⟨x, hx, rfl⟩ := seenIn_iff.1 hs
    rw [distOf_mem (L := tree n adj a) (bfs_inv (adj := adj) ha n).nodup hx, Int.toNat_natCast]
    exact way_of_mem ha n _ x hx rfl
theorem dist_ge (v : Nat) : -1 ≤ dist n adj a v := by unfold dist distOf; split <;> omega
theorem Way.lt (ha : a < n) {m v : Nat} (h : Way n adj a m v) : v < n := by cases h <;> assumption
theorem Way.cons {b m v : Nat} (hb : a < n) (hadj : adj b a = true) (hbn : b < n) (h : Way n adj b m v) : Way n adj a (m + 1) v := by
  induction h with
  | nil => exact .snoc .nil hbn hadj
  | snoc h1 h2 h3 ih => exact .snoc ih h2 h3
theorem Way.trans {b m k v : Nat} (h : Way n adj a m b) (h' : Way n adj b k v) : Way n adj a (m + k) v := by
  induction h' with
  | nil => exact h
  | snoc h1 h2 h3 ih => exact .snoc ih h2 h3
theorem Way.symm (ha : a < n) (hs : ∀ x y, adj x y = adj y x) {m v : Nat} (h : Way n adj a m v) : Way n adj v m a := by
  induction h with
  | nil => exact .nil
  | @snoc m u v h1 h2 h3 ih => exact Way.cons h2 (by rw [hs]; exact h3) (h1.lt ha) ih
theorem dist_symm (ha : a < n) {b : Nat} (hb : b < n) (hs : ∀ x y, adj x y = adj y x) : dist n adj a b = dist n adj b a := by
  have key : ∀ {a b : Nat}, a < n → b < n → 0 ≤ dist n adj a b → 0 ≤ dist n adj b a ∧ dist n adj b a ≤ dist n adj a b := by
    intro a b ha hb h
    have := dist_le hb ((dist_way ha h).symm ha hs)
    omega
  rcases Int.lt_or_le (dist n adj a b) 0 with h | h
  · rcases Int.lt_or_le (dist n adj b a) 0 with h' | h'
    · have := dist_ge (n := n) (adj := adj) (a := a) b
      have := dist_ge (n := n) (adj := adj) (a := b) a
      omega
    · have := key hb ha h'; omega
  · have h1 := key ha hb h
    have h2 := key hb ha h1.1
    omega
theorem dist_self (ha : a < n) : dist n adj a a = 0 := by have := dist_le (adj := adj) ha (.nil); omega
theorem dist_zero (ha : a < n) {v : Nat} (h : dist n adj a v = 0) : v = a := by
  have := dist_way ha (v := v) (by rw [h]; exact Int.le_refl _)
  rw [h] at this
  cases this; rfl
theorem dist_one (ha : a < n) {v : Nat} : dist n adj a v = 1 ↔ v < n ∧ v ≠ a ∧ adj v a = true := by
  constructor
  · intro h
    have hw := dist_way (adj := adj) ha (v := v) (by omega)
    rw [h] at hw
    have hne : v ≠ a := fun e => by rw [e, dist_self ha] at h; omega
    cases hw with
    | snoc h1 h2 h3 => cases h1; exact ⟨h2, hne, h3⟩
  · rintro ⟨h1, h2, h3⟩
    have h4 := dist_le ha (.snoc .nil h1 h3)
    have h5 : dist n adj a v ≠ 0 := fun e => h2 (dist_zero ha e)
    omega
theorem dist_tri (ha : a < n) {b c : Nat} (hb : b < n) (h1 : 0 ≤ dist n adj a b) (h2 : 0 ≤ dist n adj b c) : 0 ≤ dist n adj a c ∧ dist n adj a c ≤ dist n adj a b + dist n adj b c := by
  have := dist_le ha ((dist_way ha h1).trans (dist_way hb h2))
  omega
end
end Go.Proofs.Ytkifapcegiajiaa
