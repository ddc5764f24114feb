/- Appending a slice of any length in a drawing region; a list without its k-th element. Conditions: the sizes that Go's own append asks. -/
import Derived.Test.YtelmpiaaaffmlaaPush
import Derived.Test.YtelmpiaaaffmlaaRowM
import Derived.Test.YtelmpiaaaffmlaaHer4
import Derived.Laws.OwnMore
namespace Go.Proofs.Ytelmpiaaaffmlaa
open Go.RowKit
section
variable {P : Program} {ops : Array Oper}
/-- append of a slice that reads as these cells, whatever its length. -/
theorem her_pushS (wa : World) {w : World} {o : Oper} {a : Act} {K : Act → World → Prop} (s x : Operand) (t : TypeId)
    (ho : o.op = .call { callee := .builtin .append, args := #[s, x], argTypes := #[t, t] })
    (e : TypeId) {z : Value} {size bytes : Nat} (ht : P.underlying t = some (.slice e)) (hinfo : (P.info? e).map (fun i => (i.zero, i.size, i.bytes)) = some (some z, size, bytes)) (hzs : z.cells.size = size) (hsz : 0 < size)
    (v : Value) (n : Nat) (xs : List Value) (hs : a.eval s = v) (hown : w.ownsRow wa.heap.size e size v n xs) (hea : Ext wa w)
    (B : Option Addr) (m c : Nat) (news : List Value) (hx : a.eval x = .slice B m c) (hBc : B = none → c = 0) (hl : news.length = m * size) (hrow : Row w B news) (h1 : ∀ u ∈ news, u.oneCell' = true)
    (h63 : n + m ≤ 1000000000000) (hby : bytes ≤ 100)
    (h : ∀ A' c' w', w'.ownsRow wa.heap.size e size (.slice A' (n + m) c') (n + m) (xs ++ news) → Ext wa w' → w.grownBy w' v.ownBlock → K (a.put o.dst (.slice A' (n + m) c')) w') : herOp P o a w K := by
  obtain ⟨i, hi, hz0, hz1, hz2⟩ := info_parts hinfo
  cases B with
  | none =>
    have hm : m = 0 := by
      rcases Nat.eq_zero_or_pos m with h0 | h0
      · exact h0
      · have : news ≠ [] := fun e => by subst e; have := Nat.mul_pos h0 hsz; rw [List.length_nil] at hl; omega
        obtain ⟨b, off, h2, _⟩ := hrow this
        cases h2
    subst hm
    obtain rfl := hBc rfl
    have hn0 : news = [] := List.eq_nil_of_length_eq_zero (by omega)
    subst hn0
    obtain ⟨A', c', rfl⟩ := own_form hown
    have hrun := run_append_owned_none (P := P) (w := w) wa.heap.size t o.type e i size ht hi _ n xs hown
    unfold herOp execOp
    simp only [ho, resolve, invoke, builtin, Sem.run_bind, Sem.run_pure, Result.andThen_ok, List.map_toArray, List.map_cons, List.map_nil, hs, hx, hrun]
    have := h A' c' w (by simpa using hown) hea (World.grownBy.refl _ _)
    show K _ _
    simpa using this
  | some ad =>
    have hnews : ∀ j u, news[j]? = some u → w.cell? (ad.add j) = some u := fun j u hu => by
      have hne : news ≠ [] := fun e => by subst e; simp at hu
      obtain ⟨b, off, h2, h3⟩ := hrow hne
      cases h2
      rw [show (⟨b, off, none⟩ : Addr).add j = ⟨b, off + j, none⟩ from by unfold Addr.add; split <;> simp_all]
      exact h3 j u hu
    obtain ⟨v', w', hr, h2, h3, _⟩ := run_append_own (P := P) (w := w) wa.heap.size t o.type e i z size bytes ht hi hz0 hz1 hz2 hzs hsz v n xs hown ad m c news hl hnews h1 (by unfold maxLen; omega) (by have := Nat.mul_le_mul h63 hby; omega) hea.size
    obtain ⟨A', c', rfl⟩ := own_form h2
    unfold herOp execOp
    simp only [ho, resolve, invoke, builtin, Sem.run_bind, Sem.run_pure, Result.andThen_ok, List.map_toArray, List.map_cons, List.map_nil, hs, hx, hr]
    exact h A' c' w' h2 (grown_ext hea hown (Nat.le_refl _) h3) h3
end
/-- A part of a row. -/
theorem row_take {w : World} {A : Option Addr} {cs : List Value} (h : Row w A cs) (k : Nat) : Row w A (cs.take k) := fun hne => by
  have hn : cs ≠ [] := fun e => by subst e; simp at hne
  obtain ⟨b, off, rfl, hc⟩ := h hn
  refine ⟨b, off, rfl, fun j u hu => hc j u ?_⟩
  rw [List.getElem?_take] at hu
  split at hu
  · exact hu
  · cases hu
theorem row_drop {w : World} {b off : Nat} {cs : List Value} (h : Row w (some ⟨b, off, none⟩) cs) (k : Nat) : Row w (some ⟨b, off + k, none⟩) (cs.drop k) := fun hne => by
  have hn : cs ≠ [] := fun e => by subst e; simp at hne
  obtain ⟨b', off', e, hc⟩ := h hn
  cases e
  refine ⟨b, off + k, rfl, fun j u hu => ?_⟩
  rw [List.getElem?_drop] at hu
  have := hc (k + j) u hu
  rwa [← Nat.add_assoc] at this
theorem flat_take {α : Type} (f : α → List Value) (m : Nat) (hm : ∀ a, (f a).length = m) : ∀ (l : List α) (k : Nat), (l.flatMap f).take (k * m) = (l.take k).flatMap f
  | l, 0 => by simp
  | [], k + 1 => by simp
  | a :: l, k + 1 => by
    rw [List.flatMap_cons, List.take_succ_cons, List.flatMap_cons, ← flat_take f m hm l k, Nat.succ_mul, Nat.add_comm, List.take_append, hm a]
    rw [List.take_of_length_le (by rw [hm a]; omega)]
    congr 2; omega
theorem flat_drop {α : Type} (f : α → List Value) (m : Nat) (hm : ∀ a, (f a).length = m) : ∀ (l : List α) (k : Nat), (l.flatMap f).drop (k * m) = (l.drop k).flatMap f
  | l, 0 => by simp
  | [], k + 1 => by simp
  | a :: l, k + 1 => by
    rw [List.flatMap_cons, List.drop_succ_cons, ← flat_drop f m hm l k, Nat.succ_mul, Nat.add_comm, List.drop_append, hm a]
    rw [List.drop_eq_nil_of_le (by rw [hm a]; omega), List.nil_append]
    congr 1; omega
def restN {α : Type} (l : List α) (k : Nat) : List α := l.take k ++ l.drop (k + 1)
theorem restN_len {α : Type} {l : List α} {k : Nat} (h : k < l.length) : (restN l k).length = l.length - 1 := by
  unfold restN; simp; omega
end Go.Proofs.Ytelmpiaaaffmlaa
