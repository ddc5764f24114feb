/- Rows of structs of integers: lemmas. No condition. -/
import Derived.Test.YtbhbpibghjiknaaRow
namespace Go.Proofs.Ytbhbpibghjiknaa
open Go.RowKit

/-! ### Elements of 3 integers -/
structure T3 where
  a : Int
  b : Int
  c : Int
def T3.v (x : T3) : List Value := [.int .i64 x.a, .int .i64 x.b, .int .i64 x.c]
def at3 (l : List T3) (i : Nat) : T3 := l.getD i ⟨0, 0, 0⟩
theorem at3_eq (l : List T3) (i : Nat) (h : i < l.length) : at3 l i = l[i] := by simp [at3, List.getD, h]
theorem T3.len (x : T3) : x.v.length = 3 := rfl
theorem Row.t3 {w : World} {A : Option Addr} {l : List T3} (h : Row w A (l.flatMap T3.v)) {i : Nat} (hi : i < l.length) :
    ∃ b off, A = some ⟨b, off, none⟩ ∧ ∀ i, i < l.length → w.cell? ⟨b, off + i * 3, none⟩ = some (.int .i64 (at3 l i).a) ∧ w.cell? ⟨b, off + i * 3 + 1, none⟩ = some (.int .i64 (at3 l i).b) ∧ w.cell? ⟨b, off + i * 3 + 2, none⟩ = some (.int .i64 (at3 l i).c) := by
  obtain ⟨b, off, rfl, hc⟩ := h.at_ (j := i * 3) (by rw [flat_len _ 3 T3.len]; omega)
  refine ⟨b, off, rfl, fun i hi => ?_⟩
  rw [at3_eq l i hi]
  refine ⟨?_, ?_, ?_⟩
  · have := hc (i * 3 + 0) _ (flat_get T3.v 3 T3.len l i 0 hi (by omega)); simpa using this
  · have := hc (i * 3 + 1) _ (flat_get T3.v 3 T3.len l i 1 hi (by omega)); simpa [Nat.add_assoc] using this
  · have := hc (i * 3 + 2) _ (flat_get T3.v 3 T3.len l i 2 hi (by omega)); simpa [Nat.add_assoc] using this
theorem own_step3 {w wr : World} {base g n cap k : Nat} {e : TypeId} {cs : List Value} {l : List T3} (h : wr.ownsRow base e 3 (.slice (some ⟨g, 0, none⟩) n cap) n cs) (hf : Filled T3.v 3 l k cs) (hk : k < l.length) (hn : l.length = n) (he : Ext w wr) (hg : w.heap.size ≤ g) (x : World) :
    ∃ cs', (ovr (((wr.setCell ⟨g, k * 3, none⟩ (.int .i64 (at3 l k).a)).setCell ⟨g, k * 3 + 1, none⟩ (.int .i64 (at3 l k).b)).setCell ⟨g, k * 3 + 2, none⟩ (.int .i64 (at3 l k).c)) x).ownsRow base e 3 (.slice (some ⟨g, 0, none⟩) n cap) n cs' ∧ Filled T3.v 3 l (k + 1) cs' ∧ Ext w (ovr (((wr.setCell ⟨g, k * 3, none⟩ (.int .i64 (at3 l k).a)).setCell ⟨g, k * 3 + 1, none⟩ (.int .i64 (at3 l k).b)).setCell ⟨g, k * 3 + 2, none⟩ (.int .i64 (at3 l k).c)) x) := by
  have hl := h.1
  have h0 := (h.stored (k * 3) (.int .i64 (at3 l k).a)).1
  have h1 := (h0.stored (k * 3 + 1) (.int .i64 (at3 l k).b)).1
  have h2 := (h1.stored (k * 3 + 2) (.int .i64 (at3 l k).c)).1
  refine ⟨_, own_ext h2 (ovr_below _ _), hf.step T3.len hk (fun p hp => ?_) (fun j hj => ?_), ?_⟩
  · repeat rw [List.getElem?_set_ne (by omega)]
  · rw [← at3_eq l k hk]
    have hb : k * 3 + 2 < cs.length := by rw [hl, ← hn]; have : k + 1 ≤ l.length := hk; have := Nat.mul_le_mul_right 3 this; omega
    match j, hj with
    | 0, _ =>
      rw [List.getElem?_set_ne (by omega)]
      rw [List.getElem?_set_ne (by omega)]
      rw [Nat.add_zero, List.getElem?_set_self (by first | omega | (simp only [List.length_set]; omega))]; rfl
    | 1, _ =>
      rw [List.getElem?_set_ne (by omega)]
      rw [List.getElem?_set_self (by first | omega | (simp only [List.length_set]; omega))]; rfl
    | 2, _ =>
      rw [List.getElem?_set_self (by first | omega | (simp only [List.length_set]; omega))]; rfl
  · exact (((he.setCell (by exact hg) _).setCell (by exact hg) _).setCell (by exact hg) _).over _
def T3.ok (x : T3) : Prop := i64r x.a ∧ i64r x.b ∧ i64r x.c
theorem chunk3 : ∀ (n : Nat) (zs : List Int), zs.length = n * 3 → (∀ z ∈ zs, i64r z) → ∃ l : List T3, l.length = n ∧ zs.map (Value.int .i64) = l.flatMap T3.v ∧ ∀ x ∈ l, x.ok
  | 0, zs, h, _ => by
    obtain rfl : zs = [] := List.eq_nil_of_length_eq_zero (by omega)
    exact ⟨[], rfl, rfl, by simp⟩
  | n + 1, zs, h, hb => by
    match zs, h, hb with
    | a :: b :: c :: r, h, hb =>
      obtain ⟨l, h1, h2, h3⟩ := chunk3 n r (by simp at h; omega) (fun z hz => hb z (by simp [hz]))
      refine ⟨⟨a, b, c⟩ :: l, by simp [h1], by simp only [List.map_cons, List.flatMap_cons, h2]; rfl, fun x hx => ?_⟩
      rcases List.mem_cons.1 hx with rfl | hx
      · exact ⟨hb a (by simp), hb b (by simp), hb c (by simp)⟩
      · exact h3 x hx
    | [], h, _ => simp at h
    | a :: [], h, _ => simp at h; omega
    | a :: b :: [], h, _ => simp at h; omega
theorem at3_ok {l : List T3} (h : ∀ x ∈ l, x.ok) (i : Nat) : (at3 l i).ok := by
  unfold at3
  rcases Nat.lt_or_ge i l.length with h' | h'
  · rw [List.getD_eq_getElem?_getD, List.getElem?_eq_getElem h']; exact h _ (List.getElem_mem h')
  · rw [List.getD_eq_getElem?_getD, List.getElem?_eq_none h']; exact ⟨⟨by decide, by decide⟩, ⟨by decide, by decide⟩, ⟨by decide, by decide⟩⟩
end Go.Proofs.Ytbhbpibghjiknaa
