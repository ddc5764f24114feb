/-
  Slices that read as lists of cells: what a walk asks of them in a round, and how they stay as the world grows. No condition.
-/
import Derived.Test.YtkifapcegiajiaaKit
namespace Go.Proofs.Ytkifapcegiajiaa
open Go.RowKit

theorem ovr_self (w : World) : ovr w w = w := ovr_of (Below.refl _ _)

/-- A number of kind int. -/
def i64r (z : Int) : Prop := -9223372036854775808 ≤ z ∧ z ≤ 9223372036854775807
/-- The slice's address holds these cells. -/
def Row (w : World) (A : Option Addr) (cs : List Value) : Prop := cs ≠ [] → ∃ b off, A = some ⟨b, off, none⟩ ∧ ∀ j u, cs[j]? = some u → w.cell? ⟨b, off + j, none⟩ = some u

theorem Row.nil (w : World) (A : Option Addr) : Row w A [] := fun h => absurd rfl h
theorem Row.ext {w w' : World} {A : Option Addr} {cs : List Value} (h : Row w A cs) (he : Ext w w') : Row w' A cs := fun hn => by
  obtain ⟨b, off, rfl, hc⟩ := h hn
  refine ⟨b, off, rfl, fun j u hu => ?_⟩
  rw [Below.cell he (World.block_lt_of_cell? w _ (hc j u hu))]
  exact hc j u hu
theorem Row.at_ {w : World} {A : Option Addr} {cs : List Value} (h : Row w A cs) {j : Nat} (hj : j < cs.length) : ∃ b off, A = some ⟨b, off, none⟩ ∧ ∀ j u, cs[j]? = some u → w.cell? ⟨b, off + j, none⟩ = some u :=
  h (by intro e; simp [e] at hj)

/-- What a call owns reads as its cells. -/
theorem Row.of_own {w : World} {base : Nat} {e : TypeId} {size n c : Nat} {A : Option Addr} {cs : List Value} (h : w.ownsRow base e size (.slice A n c) n cs) : Row w A cs := fun hn => by
  rcases h.2 with ⟨hv, h0⟩ | ⟨g, cap, cur, hv, _⟩
  · subst h0
    have := h.1
    rw [Nat.zero_mul] at this
    exact absurd (List.eq_nil_of_length_eq_zero this) hn
  · have hA : A = some ⟨g, 0, none⟩ := by injection hv
    subst hA
    refine ⟨g, 0, rfl, fun j u hu => ?_⟩
    have := h.cells (g := g) rfl j u hu
    rwa [show (⟨g, 0, none⟩ : Addr).add j = ⟨g, 0 + j, none⟩ from by unfold Addr.add; split <;> simp_all] at this

/-! ### Lists of elements of several cells -/
theorem flat_len {α : Type} (g : α → List Value) (k : Nat) (hg : ∀ x, (g x).length = k) : ∀ l : List α, (l.flatMap g).length = l.length * k
  | [] => by simp
  | x :: l => by simp [List.flatMap_cons, hg x, flat_len g k hg l, Nat.add_mul, Nat.add_comm]
theorem flat_get {α : Type} (g : α → List Value) (k : Nat) (hg : ∀ x, (g x).length = k) : ∀ (l : List α) (i j : Nat) (hi : i < l.length), j < k → (l.flatMap g)[i * k + j]? = (g l[i])[j]?
  | [], i, j, hi, _ => by simp at hi
  | x :: l, 0, j, _, hj => by
    simp only [Nat.zero_mul, Nat.zero_add, List.flatMap_cons, List.getElem_cons_zero]
    rw [List.getElem?_append_left (by rw [hg]; exact hj)]
  | x :: l, i + 1, j, hi, hj => by
    simp only [List.flatMap_cons, List.getElem_cons_succ]
    rw [List.getElem?_append_right (by rw [hg, Nat.add_mul]; omega), hg]
    rw [show (i + 1) * k + j - k = i * k + j from by rw [Nat.add_mul]; omega]
    exact flat_get g k hg l i j (by simpa using hi) hj

def atI (l : List Int) (i : Nat) : Int := l.getD i 0
theorem atI_eq (l : List Int) (i : Nat) (h : i < l.length) : atI l i = l[i] := by simp [atI, List.getD, h]
theorem Row.ints {w : World} {A : Option Addr} {l : List Int} (h : Row w A (l.map (Value.int .i64))) {i : Nat} (hi : i < l.length) :
    ∃ b off, A = some ⟨b, off, none⟩ ∧ ∀ i, i < l.length → w.cell? ⟨b, off + i, none⟩ = some (.int .i64 (atI l i)) := by
  obtain ⟨b, off, rfl, hc⟩ := h.at_ (j := i) (by simpa using hi)
  refine ⟨b, off, rfl, fun i hi => ?_⟩
  rw [atI_eq l i hi]
  exact hc i _ (by simp [hi])

/-! ### A row of the call's own that is filled from the front -/
theorem own_ext {w w' : World} {base : Nat} {e : TypeId} {size n : Nat} {v : Value} {cs : List Value} (h : w.ownsRow base e size v n cs) (he : Ext w w') : w'.ownsRow base e size v n cs := by
  refine ⟨h.1, ?_⟩
  rcases h.2 with h2 | ⟨g, cap, cur, hv, hg, hh, r⟩
  · exact Or.inl h2
  · refine Or.inr ⟨g, cap, cur, hv, hg, ?_, r⟩
    have hlt : g < w.heap.size := (Array.getElem?_eq_some_iff.1 hh).1
    rw [he.block g hlt]; exact hh

theorem own_some {w : World} {base : Nat} {e : TypeId} {size g n cap : Nat} {cs : List Value} (h : w.ownsRow base e size (.slice (some ⟨g, 0, none⟩) n cap) n cs) (j : Nat) (hj : j < n * size) :
    ∃ u, w.cell? ⟨g, j, none⟩ = some u ∧ w.frozen? ⟨g, j, none⟩ = false := by
  have hl := h.1
  refine ⟨cs[j]'(by omega), ?_, h.frozenAt j⟩
  rw [h.cellAt j hj]; exact List.getElem?_eq_getElem (by omega)
theorem own_addr {w : World} {base : Nat} {e : TypeId} {size n c : Nat} {A : Option Addr} {cs : List Value} (h : w.ownsRow base e size (.slice A n c) n cs) (hn : 0 < n) : ∃ g, A = some ⟨g, 0, none⟩ := by
  rcases h.2 with ⟨_, h0⟩ | ⟨g, cap, cur, hv, _⟩
  · omega
  · exact ⟨g, by injection hv⟩
theorem only_setCell {a w : World} {g : Nat} (h : a.grownBy w (some g)) {p : Addr} (hp : p.block = g ∨ a.heap.size ≤ p.block) (u : Value) : a.grownBy (w.setCell p u) (some g) :=
  ⟨h.os, h.tape, h.output, by simpa [World.setCell] using h.size, fun i hi hne => (Below.heap_setCell w p u i (by
    rintro rfl
    rcases hp with hp | hp
    · exact hne (by rw [hp])
    · omega)).trans (h.block i hi hne)⟩

theorem only_row {a w : World} {g n c : Nat} (h : a.grownBy w (Value.slice (some ⟨g, 0, none⟩) n c).ownBlock) (j : Nat) (u : Value) : a.grownBy (w.setCell ⟨g, j, none⟩ u) (Value.slice (some ⟨g, 0, none⟩) n c).ownBlock :=
  only_setCell (g := g) h (.inl rfl) u

def Filled {α : Type} (g : α → List Value) (m : Nat) (l : List α) (k : Nat) (cs : List Value) : Prop := ∀ p, p < k * m → cs[p]? = (l.flatMap g)[p]?
theorem Filled.zero {α : Type} (g : α → List Value) (m : Nat) (l : List α) (cs : List Value) : Filled g m l 0 cs := fun p hp => by omega
theorem Filled.step {α : Type} {g : α → List Value} {m : Nat} (hg : ∀ x, (g x).length = m) {l : List α} {k : Nat} {cs cs' : List Value} (h : Filled g m l k cs) (hk : k < l.length) (h1 : ∀ p, p < k * m → cs'[p]? = cs[p]?)
    (h2 : ∀ j, j < m → cs'[k * m + j]? = (g l[k])[j]?) : Filled g m l (k + 1) cs' := fun p hp => by
  rw [Nat.add_mul] at hp
  rcases Nat.lt_or_ge p (k * m) with h' | h'
  · rw [h1 p h', h p h']
  · obtain ⟨j, rfl⟩ : ∃ j, p = k * m + j := ⟨p - k * m, by omega⟩
    rw [h2 j (by omega), flat_get g m hg l k j hk (by omega)]
theorem Filled.done {α : Type} {g : α → List Value} {m : Nat} (hg : ∀ x, (g x).length = m) {l : List α} {cs : List Value} (h : Filled g m l l.length cs) (hl : cs.length = l.length * m) : cs = l.flatMap g := by
  apply List.ext_getElem?
  intro p
  rcases Nat.lt_or_ge p (l.length * m) with h' | h'
  · exact h p h'
  · rw [List.getElem?_eq_none (by omega), List.getElem?_eq_none (by rw [flat_len g m hg]; omega)]

/-! ### A test at every number below n -/
def allN (n : Nat) (p : Nat → Bool) : Bool := (List.range n).all p
theorem allN_true {n : Nat} {p : Nat → Bool} (h : ∀ j, j < n → p j = true) : allN n p = true := by
  unfold allN; rw [List.all_eq_true]; intro j hj; exact h j (by simpa using hj)
theorem allN_false {n k : Nat} {p : Nat → Bool} (hk : k < n) (h : p k = false) : allN n p = false := by
  unfold allN; rw [List.all_eq_false]; exact ⟨k, by simpa using hk, by simp [h]⟩
/-- The first number below n with a property, or -1. -/
def firstN (n : Nat) (p : Nat → Bool) : Int := match (List.range n).find? p with | some k => (k : Int) | none => -1
theorem firstN_hit {n k : Nat} {p : Nat → Bool} (h : ∀ j, j < k → p j = false) (hk : k < n) (hp : p k = true) : firstN n p = k := by
  have : (List.range n).find? p = some k := by
    rw [List.find?_range_eq_some]
    exact ⟨hp, by simpa using hk, fun j hj => by simp [h j hj]⟩
  simp [firstN, this]
theorem firstN_none {n : Nat} {p : Nat → Bool} (h : ∀ j, j < n → p j = false) : firstN n p = -1 := by
  have : (List.range n).find? p = none := by
    rw [List.find?_eq_none]
    intro j hj
    simp [h j (by simpa using hj)]
  simp [firstN, this]
theorem lt_succ_all {P : Nat → Prop} {k : Nat} (h : ∀ j, j < k → P j) (hk : P k) : ∀ j, j < k + 1 → P j := fun j hj => by
  rcases Nat.lt_or_ge j k with h' | h'
  · exact h j h'
  · obtain rfl : j = k := by omega
    exact hk
theorem allN_iff {n : Nat} {p : Nat → Bool} : allN n p = true ↔ ∀ j, j < n → p j = true := by
  unfold allN; simp
end Go.Proofs.Ytkifapcegiajiaa
