/- A queue of elements of two cells: a slice of the call's own, resliced from the left and appended to. Conditions: the sizes that append asks. -/
import Derived.Test.YtkifapcegiajiaaQueue
namespace Go.Proofs.Ytkifapcegiajiaa
open Go.RowKit
set_option linter.unusedVariables false

/-- The m elements of two cells each, xs, lie at A, in a row of the call's own; c elements from A on are the slice's. -/
def QB (base : Nat) (e : TypeId) (w : World) (A : Option Addr) (m c : Nat) (xs : List Value) : Prop :=
  ∃ g off N ys, A = some ⟨g, off, none⟩ ∧ w.ownsRow base e 2 (.slice (some ⟨g, 0, none⟩) N N) N ys ∧ off + c * 2 ≤ N * 2 ∧ m ≤ c ∧ xs.length = m * 2 ∧ ∀ j u, xs[j]? = some u → ys[off + j]? = some u
theorem own_wholeB {w : World} {base n c : Nat} {e : TypeId} {A : Option Addr} {xs : List Value} (h : w.ownsRow base e 2 (.slice A n c) n xs) (hA : A ≠ none) : QB base e w A n c xs := by
  have hl := h.1
  rcases h.2 with ⟨hv, _⟩ | ⟨g, cap, cur, hv, hb, hg, hn, hm, hs, ht⟩
  · injection hv with h1; exact absurd h1 hA
  · injection hv with h1 h2 h3
    subst h1 h3
    refine ⟨g, 0, c, cur.toList, rfl, ⟨by simpa using hs, .inr ⟨g, c, cur, rfl, hb, hg, Nat.le_refl _, hm, hs, List.take_of_length_le (by rw [Array.length_toList, hs]; exact Nat.le_refl _)⟩⟩, by omega, hn, by omega, fun j u hu => ?_⟩
    rw [← ht, List.getElem?_take] at hu
    split at hu
    · simpa using hu
    · cases hu
theorem QB.ext {base : Nat} {e : TypeId} {w w' : World} {A : Option Addr} {m c : Nat} {xs : List Value} (h : QB base e w A m c xs) (he : Ext w w') : QB base e w' A m c xs := by
  obtain ⟨g, off, N, ys, rfl, ho, r⟩ := h
  exact ⟨g, off, N, ys, rfl, own_ext ho he, r⟩
theorem QB.kept {base : Nat} {e : TypeId} {w w' : World} {g off k m c : Nat} {xs : List Value} (h : QB base e w (some ⟨g, off, none⟩) m c xs) (hg : w.grownBy w' (some k)) (hk : g ≠ k) : QB base e w' (some ⟨g, off, none⟩) m c xs := by
  obtain ⟨g', off', N, ys, hA, ho, r⟩ := h
  injection hA with hA; injection hA with hA1 hA2; subst hA1 hA2
  exact ⟨g, off, N, ys, rfl, ho.kept hg (.inr fun h1 => hk (by simpa [Value.ownBlock] using h1)), r⟩
theorem QAt.keptN {base : Nat} {e : TypeId} {w w' : World} {g off k m c : Nat} {xs : List Value} (h : QAt base e w (some ⟨g, off, none⟩) m c xs) (hg : w.grownBy w' (some k)) (hk : g ≠ k) : QAt base e w' (some ⟨g, off, none⟩) m c xs := by
  obtain ⟨g', off', N, ys, hA, ho, r⟩ := h
  injection hA with hA; injection hA with hA1 hA2; subst hA1 hA2
  exact ⟨g, off, N, ys, rfl, ho.kept hg (.inr fun h1 => hk (by simpa [Value.ownBlock] using h1)), r⟩
theorem QB.len {base : Nat} {e : TypeId} {w : World} {A : Option Addr} {m c : Nat} {xs : List Value} (h : QB base e w A m c xs) : xs.length = m * 2 := by
  obtain ⟨g, off, N, ys, rfl, ho, h1, h2, h3, _⟩ := h
  exact h3
theorem QB.cap {base : Nat} {e : TypeId} {w : World} {A : Option Addr} {m c : Nat} {xs : List Value} (h : QB base e w A m c xs) : m ≤ c := by
  obtain ⟨g, off, N, ys, rfl, ho, h1, h2, h3, _⟩ := h
  exact h2
theorem QB.at_ {base : Nat} {e : TypeId} {w : World} {g off m c : Nat} {xs : List Value} (h : QB base e w (some ⟨g, off, none⟩) m c xs) : base ≤ g ∧ g < w.heap.size ∧ ∀ j u, xs[j]? = some u → w.cell? ⟨g, off + j, none⟩ = some u := by
  obtain ⟨g', off', N, ys, hA, ho, h1, h2, h3, h4⟩ := h
  injection hA with hA; injection hA with hA1 hA2; subst hA1 hA2
  refine ⟨(ho.lt g rfl).1, (ho.lt g rfl).2, fun j u hu => ?_⟩
  have hj := (List.getElem?_eq_some_iff.1 hu).1
  rw [ho.cellAt _ (by omega)]
  exact h4 j u hu
/-- The first element is dropped. -/
theorem QB.tail {base : Nat} {e : TypeId} {w : World} {g off m c : Nat} {x y : Value} {xs : List Value} (h : QB base e w (some ⟨g, off, none⟩) (m + 1) c (x :: y :: xs)) {B : Option Addr} (hB : B = some ⟨g, off + 2, none⟩ ∨ c = 1 ∧ B = some ⟨g, off, none⟩) : QB base e w B m (c - 1) xs := by
  obtain ⟨g', off', N, ys, hA, ho, h1, h2, h3, h4⟩ := h
  injection hA with hA; injection hA with hA1 hA2; subst hA1 hA2
  have h5 : xs.length = m * 2 := by simp at h3; omega
  rcases hB with rfl | ⟨hc, rfl⟩
  · exact ⟨g, off + 2, N, ys, rfl, ho, by omega, by omega, h5, fun j u hu => by rw [Nat.add_assoc, Nat.add_comm 2 j]; exact h4 (j + 2) u (by simpa using hu)⟩
  · obtain rfl : m = 0 := by omega
    obtain rfl : xs = [] := List.eq_nil_of_length_eq_zero (by omega)
    exact ⟨g, off, N, ys, rfl, ho, by omega, by omega, rfl, by simp⟩
section
variable {P : Program} {w : World} {ops : Array Oper} {rest : List Oper} {o : Oper} {a : Act} {Q : Exit → Act → World → Prop}
/-- append of one element of two cells. -/
theorem wpList_pushB (hgd : o.guard = none) (s x : Operand) (t : TypeId)
    (ho : o.op = .call { callee := .builtin .append, args := #[s, x], argTypes := #[t, t] })
    (e : TypeId) {z : Value} {bytes : Nat} (ht : P.underlying t = some (.slice e)) (hinfo : (P.info? e).map (fun i => (i.zero, i.size, i.bytes)) = some (some z, 2, bytes)) (hzs : z.cells.size = 2)
    (base gA oA n c : Nat) (xs : List Value) (hs : a.eval s = .slice (some ⟨gA, oA, none⟩) n c) (w0 : World) (hq : QB base e w0 (some ⟨gA, oA, none⟩) n c xs) (he0 : Ext w0 w) (hbase : base ≤ w0.heap.size)
    (ad : Addr) (c' : Nat) (u v : Value) (hx : a.eval x = .slice (some ad) 1 c') (hnews : ∀ j y, [u, v][j]? = some y → w.cell? (ad.add j) = some y) (h1 : u.oneCell' = true) (h2 : v.oneCell' = true)
    (h63 : n + 1 ≤ 1000000000000) (hby : bytes ≤ 100)
    (h : ∀ g' o' c2 w', QB base e w' (some ⟨g', o', none⟩) (n + 1) c2 (xs ++ [u, v]) → w0.grownBy w' (some gA) → (g' = gA ∨ w0.heap.size ≤ g') → wpList P ops Q rest (a.put o.dst (.slice (some ⟨g', o', none⟩) (n + 1) c2)) w') : wpList P ops Q (o :: rest) a w := by
  obtain ⟨i, hi, hz0, hz1, hz2⟩ := info_parts hinfo
  have hs0 := he0.size
  have hq' := hq.ext he0
  obtain ⟨g, off, N, ys, hA, hown, hN, hc, hl, hxs⟩ := hq'
  injection hA with hA; injection hA with hA1 hA2; subst hA1 hA2
  have hone : ∀ y ∈ [u, v], y.oneCell' = true := by
    intro y hy
    simp at hy
    rcases hy with rfl | rfl <;> assumption
  obtain ⟨v', w', hrun, ⟨g', o', c2, rfl, hQ, hgg⟩, hg⟩ : ∃ v' w', (Builtin.append_ #[t, t] o.type #[.slice (some ⟨gA, oA, none⟩) n c, .slice (some ad) 1 c']).run P w = .ok v' w' ∧ (∃ g' o' c2, v' = .slice (some ⟨g', o', none⟩) (n + 1) c2 ∧ QB base e w' (some ⟨g', o', none⟩) (n + 1) c2 (xs ++ [u, v]) ∧ (g' = gA ∨ w.heap.size ≤ g')) ∧ w.grownBy w' (some gA) := by
    by_cases hroom : n + 1 ≤ c
    · have hr := run_append_room_cells (P := P) w t o.type e i ht hi gA oA n c ad 1 c' [u, v] (by rw [hz1]; rfl) hnews hone hroom (fun j hj => by
        have hj' : j < 2 := by simpa using hj
        rw [hz1, hown.cellAt _ (by omega)]
        have := hown.1
        rw [List.getElem?_eq_getElem (by omega)]; rfl) (fun j hj => hown.frozenAt _)
      rw [hz1] at hr
      have hst := hown.stored (oA + n * 2) u
      have hst2 := hst.1.stored (oA + n * 2 + 1) v
      have hyl := hown.1
      refine ⟨_, _, hr, ⟨_, _, _, rfl, ⟨gA, oA, N, (ys.set (oA + n * 2) u).set (oA + n * 2 + 1) v, rfl, hst2.1, hN, by omega, by simp [hl]; omega, fun j y hv => ?_⟩, .inl rfl⟩, grown_then hst.2 hst2.2 (.inl rfl)⟩
      rcases Nat.lt_or_ge j (n * 2) with hj | hj
      · rw [List.getElem?_append_left (by omega)] at hv
        rw [List.getElem?_set_ne (by omega), List.getElem?_set_ne (by omega)]
        exact hxs j y hv
      · have hjn : j = n * 2 ∨ j = n * 2 + 1 := by have := (List.getElem?_eq_some_iff.1 hv).1; simp at this; omega
        rw [List.getElem?_append_right (by omega)] at hv
        rcases hjn with rfl | rfl
        · rw [List.getElem?_set_ne (by omega), List.getElem?_set_self (by omega)]
          simpa [hl] using hv
        · rw [← Nat.add_assoc, List.getElem?_set_self (by rw [List.length_set]; omega)]
          simpa [hl] using hv
    · obtain ⟨v', w', hr, ho', hg'⟩ := run_append_arg_grows (P := P) w t o.type e i z 2 bytes ht hi hz0 hz1 hz2 hzs (by decide) ⟨gA, oA, none⟩ n c xs (by omega) (fun j v hv => by
        rw [show (⟨gA, oA, none⟩ : Addr).add j = ⟨gA, oA + j, none⟩ from by unfold Addr.add; split <;> simp_all]
        have hj := (List.getElem?_eq_some_iff.1 hv).1
        rw [hown.cellAt _ (by omega)]
        exact hxs j v hv) ad 1 c' [u, v] rfl hnews (by omega) (by unfold maxLen; omega) (by have := Nat.mul_le_mul h63 hby; omega)
      obtain ⟨A', c2, rfl⟩ := own_form ho'
      obtain ⟨g', hA'⟩ := own_addr ho' (by omega)
      subst hA'
      exact ⟨_, w', hr, ⟨_, _, _, rfl, own_wholeB (own_base ho' (by omega)) (by simp), .inr (ho'.lt g' rfl).1⟩, ⟨hg'.os, hg'.tape, hg'.output, hg'.size, fun k hk hne => hg'.block k hk (by simp)⟩⟩
  refine wpList_plain hgd fun K hK => ?_
  unfold Oper.wp execOp
  simp only [ho, resolve, invoke, builtin, Sem.run_bind, Sem.run_pure, Result.andThen_ok, List.map_toArray, List.map_cons, List.map_nil, hs, hx, hrun]
  exact hK _ _ (h g' o' c2 w' hQ (grown_then (ext_grown he0 _) hg (.inl rfl)) (hgg.imp id fun h => Nat.le_trans hs0 h))
end
end Go.Proofs.Ytkifapcegiajiaa
