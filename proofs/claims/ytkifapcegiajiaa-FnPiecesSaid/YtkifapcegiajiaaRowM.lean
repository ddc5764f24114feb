/- Rows of structs: lemmas. No condition. -/
import Derived.Test.YtkifapcegiajiaaRow
namespace Go.Proofs.Ytkifapcegiajiaa
open Go.RowKit

/-! ### Elements of 2 cells: T2 -/
structure T2 where
  a : Int
  b : Int
def T2.v (x : T2) : List Value := [.int .i64 x.a, .int .i64 x.b]
def at2 (l : List T2) (i : Nat) : T2 := l.getD i ⟨0, 0⟩
theorem at2_eq (l : List T2) (i : Nat) (h : i < l.length) : at2 l i = l[i] := by simp [at2, List.getD, h]
theorem T2.len (x : T2) : x.v.length = 2 := rfl
theorem Row.t2 {w : World} {A : Option Addr} {l : List T2} (h : Row w A (l.flatMap T2.v)) {i : Nat} (hi : i < l.length) :
    ∃ b off, A = some ⟨b, off, none⟩ ∧ ∀ i, i < l.length → w.cell? ⟨b, off + i * 2, none⟩ = some (.int .i64 (at2 l i).a) ∧ w.cell? ⟨b, off + i * 2 + 1, none⟩ = some (.int .i64 (at2 l i).b) := by
  obtain ⟨b, off, rfl, hc⟩ := h.at_ (j := i * 2) (by rw [flat_len _ 2 T2.len]; omega)
  refine ⟨b, off, rfl, fun i hi => ?_⟩
  rw [at2_eq l i hi]
  refine ⟨?_, ?_⟩
  · have := hc (i * 2 + 0) _ (flat_get T2.v 2 T2.len l i 0 hi (by omega)); simpa using this
  · have := hc (i * 2 + 1) _ (flat_get T2.v 2 T2.len l i 1 hi (by omega)); simpa [Nat.add_assoc] using this
theorem own_put2 {w wr : World} {base g n cap k : Nat} {e : TypeId} {cs : List Value} {l : List T2} (x0 : T2) (h : wr.ownsRow base e 2 (.slice (some ⟨g, 0, none⟩) n cap) n cs) (hf : Filled T2.v 2 l k cs) (hk : k < l.length) (hx : at2 l k = x0) (hn : l.length = n) (hg : w.grownBy wr (Value.slice (some ⟨g, 0, none⟩) n cap).ownBlock) :
    ∃ cs', ((wr.setCell ⟨g, k * 2, none⟩ (.int .i64 x0.a)).setCell ⟨g, k * 2 + 1, none⟩ (.int .i64 x0.b)).ownsRow base e 2 (.slice (some ⟨g, 0, none⟩) n cap) n cs' ∧ Filled T2.v 2 l (k + 1) cs' ∧ w.grownBy ((wr.setCell ⟨g, k * 2, none⟩ (.int .i64 x0.a)).setCell ⟨g, k * 2 + 1, none⟩ (.int .i64 x0.b)) (Value.slice (some ⟨g, 0, none⟩) n cap).ownBlock := by
  have hl := h.1
  have h0 := (h.stored (k * 2) (.int .i64 x0.a)).1
  have h1 := (h0.stored (k * 2 + 1) (.int .i64 x0.b)).1
  refine ⟨_, h1, hf.step T2.len hk (fun p hp => ?_) (fun j hj => ?_), ?_⟩
  · repeat rw [List.getElem?_set_ne (by omega)]
  · rw [← at2_eq l k hk, hx]
    have hb : k * 2 + 1 < cs.length := by rw [hl, ← hn]; have : k + 1 ≤ l.length := hk; have := Nat.mul_le_mul_right 2 this; omega
    match j, hj with
    | 0, _ =>
      rw [List.getElem?_set_ne (by omega)]
      rw [Nat.add_zero, List.getElem?_set_self (by first | omega | (simp only [List.length_set]; omega))]; rfl
    | 1, _ =>
      rw [List.getElem?_set_self (by first | omega | (simp only [List.length_set]; omega))]; rfl
  · exact only_row (only_row hg _ _) _ _
theorem own_step2 {w wr : World} {base g n cap k : Nat} {e : TypeId} {cs : List Value} {l : List T2} (h : wr.ownsRow base e 2 (.slice (some ⟨g, 0, none⟩) n cap) n cs) (hf : Filled T2.v 2 l k cs) (hk : k < l.length) (hn : l.length = n) (he : Ext w wr) (hg : w.heap.size ≤ g) (x : World) :
    ∃ cs', (ovr ((wr.setCell ⟨g, k * 2, none⟩ (.int .i64 (at2 l k).a)).setCell ⟨g, k * 2 + 1, none⟩ (.int .i64 (at2 l k).b)) x).ownsRow base e 2 (.slice (some ⟨g, 0, none⟩) n cap) n cs' ∧ Filled T2.v 2 l (k + 1) cs' ∧ Ext w (ovr ((wr.setCell ⟨g, k * 2, none⟩ (.int .i64 (at2 l k).a)).setCell ⟨g, k * 2 + 1, none⟩ (.int .i64 (at2 l k).b)) x) := by
  obtain ⟨cs', h1, h2, _⟩ := own_put2 (w := wr) (at2 l k) h hf hk rfl hn (World.grownBy.refl _ _)
  exact ⟨cs', own_ext h1 (ovr_below _ _), h2, ((he.setCell (by exact hg) _).setCell (by exact hg) _).over _⟩
def T2.ok (x : T2) : Prop := i64r x.a ∧ i64r x.b
theorem chunk2 : ∀ (n : Nat) (zs : List Int), zs.length = n * 2 → (∀ z ∈ zs, i64r z) → ∃ l : List T2, l.length = n ∧ zs.map (Value.int .i64) = l.flatMap T2.v ∧ ∀ x ∈ l, x.ok
  | 0, zs, h, _ => by
    obtain rfl : zs = [] := List.eq_nil_of_length_eq_zero (by omega)
    exact ⟨[], rfl, rfl, by simp⟩
  | n + 1, zs, h, hb => by
    match zs, h, hb with
    | a :: b :: r, h, hb =>
      obtain ⟨l, h1, h2, h3⟩ := chunk2 n r (by simp at h; omega) (fun z hz => hb z (by simp [hz]))
      refine ⟨⟨a, b⟩ :: l, by simp [h1], by simp only [List.map_cons, List.flatMap_cons, h2]; rfl, fun x hx => ?_⟩
      rcases List.mem_cons.1 hx with rfl | hx
      · exact ⟨hb a (by simp), hb b (by simp)⟩
      · exact h3 x hx
    | [], h, _ => simp at h
    | a :: [], h, _ => simp at h; omega
theorem at2_ok {l : List T2} (h : ∀ x ∈ l, x.ok) (i : Nat) : (at2 l i).ok := by
  unfold at2
  rcases Nat.lt_or_ge i l.length with h' | h'
  · rw [List.getD_eq_getElem?_getD, List.getElem?_eq_getElem h']; exact h _ (List.getElem_mem h')
  · rw [List.getD_eq_getElem?_getD, List.getElem?_eq_none h']; exact ⟨⟨by decide, by decide⟩, ⟨by decide, by decide⟩⟩
def mks2 (q : Int) (n : Nat) : List T2 := (List.range n).map fun (k : Nat) => ⟨(q + 2 * ↑k), (q + 2 * ↑k + 1)⟩
theorem mks2_len (q : Int) (n : Nat) : (mks2 q n).length = n := by simp [mks2]
theorem mks2_at (q : Int) (n k : Nat) (h : k < n) : at2 (mks2 q n) k = ⟨(q + 2 * ↑k), (q + 2 * ↑k + 1)⟩ := by simp [at2, mks2, List.getD, h]

/-! ### Elements of 3 cells: T3 -/
structure T3 where
  a : Int
  b : Int
  c : Int
def T3.v (x : T3) : List Value := [.int .i64 x.a, .int .i64 x.b, .int .i64 x.c]
def at3 (l : List T3) (i : Nat) : T3 := l.getD i ⟨0, 0, 0⟩
theorem at3_eq (l : List T3) (i : Nat) (h : i < l.length) : at3 l i = l[i] := by simp [at3, List.getD, h]
theorem T3.len (x : T3) : x.v.length = 3 := rfl
theorem Row.t3 {w : World} {A : Option Addr} {l : List T3} (h : Row w A (l.flatMap T3.v)) {i : Nat} (hi : i < l.length) :
    ∃ b off, A = some ⟨b, off, none⟩ ∧ ∀ i, i < l.length → w.cell? ⟨b, off + i * 3, none⟩ = some (.int .i64 (at3 l i).a) ∧ w.cell? ⟨b, off + i * 3 + 1, none⟩ = some (.int .i64 (at3 l i).b) ∧ w.cell? ⟨b, off + i * 3 + 2, none⟩ = some (.int .i64 (at3 l i).c) := by
  obtain ⟨b, off, rfl, hc⟩ := h.at_ (j := i * 3) (by rw [flat_len _ 3 T3.len]; omega)
  refine ⟨b, off, rfl, fun i hi => ?_⟩
  rw [at3_eq l i hi]
  refine ⟨?_, ?_, ?_⟩
  · have := hc (i * 3 + 0) _ (flat_get T3.v 3 T3.len l i 0 hi (by omega)); simpa using this
  · have := hc (i * 3 + 1) _ (flat_get T3.v 3 T3.len l i 1 hi (by omega)); simpa [Nat.add_assoc] using this
  · have := hc (i * 3 + 2) _ (flat_get T3.v 3 T3.len l i 2 hi (by omega)); simpa [Nat.add_assoc] using this
theorem own_put3 {w wr : World} {base g n cap k : Nat} {e : TypeId} {cs : List Value} {l : List T3} (x0 : T3) (h : wr.ownsRow base e 3 (.slice (some ⟨g, 0, none⟩) n cap) n cs) (hf : Filled T3.v 3 l k cs) (hk : k < l.length) (hx : at3 l k = x0) (hn : l.length = n) (hg : w.grownBy wr (Value.slice (some ⟨g, 0, none⟩) n cap).ownBlock) :
    ∃ cs', (((wr.setCell ⟨g, k * 3, none⟩ (.int .i64 x0.a)).setCell ⟨g, k * 3 + 1, none⟩ (.int .i64 x0.b)).setCell ⟨g, k * 3 + 2, none⟩ (.int .i64 x0.c)).ownsRow base e 3 (.slice (some ⟨g, 0, none⟩) n cap) n cs' ∧ Filled T3.v 3 l (k + 1) cs' ∧ w.grownBy (((wr.setCell ⟨g, k * 3, none⟩ (.int .i64 x0.a)).setCell ⟨g, k * 3 + 1, none⟩ (.int .i64 x0.b)).setCell ⟨g, k * 3 + 2, none⟩ (.int .i64 x0.c)) (Value.slice (some ⟨g, 0, none⟩) n cap).ownBlock := by
  have hl := h.1
  have h0 := (h.stored (k * 3) (.int .i64 x0.a)).1
  have h1 := (h0.stored (k * 3 + 1) (.int .i64 x0.b)).1
  have h2 := (h1.stored (k * 3 + 2) (.int .i64 x0.c)).1
  refine ⟨_, h2, hf.step T3.len hk (fun p hp => ?_) (fun j hj => ?_), ?_⟩
  · repeat rw [List.getElem?_set_ne (by omega)]
  · rw [← at3_eq l k hk, hx]
    have hb : k * 3 + 2 < cs.length := by rw [hl, ← hn]; have : k + 1 ≤ l.length := hk; have := Nat.mul_le_mul_right 3 this; omega
    match j, hj with
    | 0, _ =>
      rw [List.getElem?_set_ne (by omega)]
      rw [List.getElem?_set_ne (by omega)]
      rw [Nat.add_zero, List.getElem?_set_self (by first | omega | (simp only [List.length_set]; omega))]; rfl
    | 1, _ =>
      rw [List.getElem?_set_ne (by omega)]
      rw [List.getElem?_set_self (by first | omega | (simp only [List.length_set]; omega))]; rfl
    | 2, _ =>
      rw [List.getElem?_set_self (by first | omega | (simp only [List.length_set]; omega))]; rfl
  · exact only_row (only_row (only_row hg _ _) _ _) _ _
theorem own_step3 {w wr : World} {base g n cap k : Nat} {e : TypeId} {cs : List Value} {l : List T3} (h : wr.ownsRow base e 3 (.slice (some ⟨g, 0, none⟩) n cap) n cs) (hf : Filled T3.v 3 l k cs) (hk : k < l.length) (hn : l.length = n) (he : Ext w wr) (hg : w.heap.size ≤ g) (x : World) :
    ∃ cs', (ovr (((wr.setCell ⟨g, k * 3, none⟩ (.int .i64 (at3 l k).a)).setCell ⟨g, k * 3 + 1, none⟩ (.int .i64 (at3 l k).b)).setCell ⟨g, k * 3 + 2, none⟩ (.int .i64 (at3 l k).c)) x).ownsRow base e 3 (.slice (some ⟨g, 0, none⟩) n cap) n cs' ∧ Filled T3.v 3 l (k + 1) cs' ∧ Ext w (ovr (((wr.setCell ⟨g, k * 3, none⟩ (.int .i64 (at3 l k).a)).setCell ⟨g, k * 3 + 1, none⟩ (.int .i64 (at3 l k).b)).setCell ⟨g, k * 3 + 2, none⟩ (.int .i64 (at3 l k).c)) x) := by
  obtain ⟨cs', h1, h2, _⟩ := own_put3 (w := wr) (at3 l k) h hf hk rfl hn (World.grownBy.refl _ _)
  exact ⟨cs', own_ext h1 (ovr_below _ _), h2, (((he.setCell (by exact hg) _).setCell (by exact hg) _).setCell (by exact hg) _).over _⟩
def T3.ok (x : T3) : Prop := i64r x.a ∧ i64r x.b ∧ i64r x.c
theorem chunk3 : ∀ (n : Nat) (zs : List Int), zs.length = n * 3 → (∀ z ∈ zs, i64r z) → ∃ l : List T3, l.length = n ∧ zs.map (Value.int .i64) = l.flatMap T3.v ∧ ∀ x ∈ l, x.ok
  | 0, zs, h, _ => by
    obtain rfl : zs = [] := List.eq_nil_of_length_eq_zero (by omega)
    exact ⟨[], rfl, rfl, by simp⟩
  | n + 1, zs, h, hb => by
    match zs, h, hb with
    | a :: b :: c :: r, h, hb =>
      obtain ⟨l, h1, h2, h3⟩ := chunk3 n r (by simp at h; omega) (fun z hz => hb z (by simp [hz]))
      refine ⟨⟨a, b, c⟩ :: l, by simp [h1], by simp only [List.map_cons, List.flatMap_cons, h2]; rfl, fun x hx => ?_⟩
      rcases List.mem_cons.1 hx with rfl | hx
      · exact ⟨hb a (by simp), hb b (by simp), hb c (by simp)⟩
      · exact h3 x hx
    | [], h, _ => simp at h
    | a :: [], h, _ => simp at h; omega
    | a :: b :: [], h, _ => simp at h; omega
theorem at3_ok {l : List T3} (h : ∀ x ∈ l, x.ok) (i : Nat) : (at3 l i).ok := by
  unfold at3
  rcases Nat.lt_or_ge i l.length with h' | h'
  · rw [List.getD_eq_getElem?_getD, List.getElem?_eq_getElem h']; exact h _ (List.getElem_mem h')
  · rw [List.getD_eq_getElem?_getD, List.getElem?_eq_none h']; exact ⟨⟨by decide, by decide⟩, ⟨by decide, by decide⟩, ⟨by decide, by decide⟩⟩
def mks3 (q : Int) (n : Nat) : List T3 := (List.range n).map fun (k : Nat) => ⟨(q + 3 * ↑k), (q + 3 * ↑k + 1), (q + 3 * ↑k + 1 + 1)⟩
theorem mks3_len (q : Int) (n : Nat) : (mks3 q n).length = n := by simp [mks3]
theorem mks3_at (q : Int) (n k : Nat) (h : k < n) : at3 (mks3 q n) k = ⟨(q + 3 * ↑k), (q + 3 * ↑k + 1), (q + 3 * ↑k + 1 + 1)⟩ := by simp [at3, mks3, List.getD, h]

/-! ### Elements of 7 cells: T7 -/
structure T7 where
  a : Int
  b : Int
  c : Int
  d : Int
  e : Int
  f : Int
  g : Int
def T7.v (x : T7) : List Value := [.int .i64 x.a, .int .i64 x.b, .int .i64 x.c, .int .i64 x.d, .int .i64 x.e, .int .i64 x.f, .int .i64 x.g]
def at7 (l : List T7) (i : Nat) : T7 := l.getD i ⟨0, 0, 0, 0, 0, 0, 0⟩
theorem at7_eq (l : List T7) (i : Nat) (h : i < l.length) : at7 l i = l[i] := by simp [at7, List.getD, h]
theorem T7.len (x : T7) : x.v.length = 7 := rfl
theorem Row.t7 {w : World} {A : Option Addr} {l : List T7} (h : Row w A (l.flatMap T7.v)) {i : Nat} (hi : i < l.length) :
    ∃ b off, A = some ⟨b, off, none⟩ ∧ ∀ i, i < l.length → w.cell? ⟨b, off + i * 7, none⟩ = some (.int .i64 (at7 l i).a) ∧ w.cell? ⟨b, off + i * 7 + 1, none⟩ = some (.int .i64 (at7 l i).b) ∧ w.cell? ⟨b, off + i * 7 + 2, none⟩ = some (.int .i64 (at7 l i).c) ∧ w.cell? ⟨b, off + i * 7 + 3, none⟩ = some (.int .i64 (at7 l i).d) ∧ w.cell? ⟨b, off + i * 7 + 4, none⟩ = some (.int .i64 (at7 l i).e) ∧ w.cell? ⟨b, off + i * 7 + 5, none⟩ = some (.int .i64 (at7 l i).f) ∧ w.cell? ⟨b, off + i * 7 + 6, none⟩ = some (.int .i64 (at7 l i).g) := by
  obtain ⟨b, off, rfl, hc⟩ := h.at_ (j := i * 7) (by rw [flat_len _ 7 T7.len]; omega)
  refine ⟨b, off, rfl, fun i hi => ?_⟩
  rw [at7_eq l i hi]
  refine ⟨?_, ?_, ?_, ?_, ?_, ?_, ?_⟩
  · have := hc (i * 7 + 0) _ (flat_get T7.v 7 T7.len l i 0 hi (by omega)); simpa using this
  · have := hc (i * 7 + 1) _ (flat_get T7.v 7 T7.len l i 1 hi (by omega)); simpa [Nat.add_assoc] using this
  · have := hc (i * 7 + 2) _ (flat_get T7.v 7 T7.len l i 2 hi (by omega)); simpa [Nat.add_assoc] using this
  · have := hc (i * 7 + 3) _ (flat_get T7.v 7 T7.len l i 3 hi (by omega)); simpa [Nat.add_assoc] using this
  · have := hc (i * 7 + 4) _ (flat_get T7.v 7 T7.len l i 4 hi (by omega)); simpa [Nat.add_assoc] using this
  · have := hc (i * 7 + 5) _ (flat_get T7.v 7 T7.len l i 5 hi (by omega)); simpa [Nat.add_assoc] using this
  · have := hc (i * 7 + 6) _ (flat_get T7.v 7 T7.len l i 6 hi (by omega)); simpa [Nat.add_assoc] using this
theorem own_put7 {w wr : World} {base g n cap k : Nat} {e : TypeId} {cs : List Value} {l : List T7} (x0 : T7) (h : wr.ownsRow base e 7 (.slice (some ⟨g, 0, none⟩) n cap) n cs) (hf : Filled T7.v 7 l k cs) (hk : k < l.length) (hx : at7 l k = x0) (hn : l.length = n) (hg : w.grownBy wr (Value.slice (some ⟨g, 0, none⟩) n cap).ownBlock) :
    ∃ cs', (((((((wr.setCell ⟨g, k * 7, none⟩ (.int .i64 x0.a)).setCell ⟨g, k * 7 + 1, none⟩ (.int .i64 x0.b)).setCell ⟨g, k * 7 + 2, none⟩ (.int .i64 x0.c)).setCell ⟨g, k * 7 + 3, none⟩ (.int .i64 x0.d)).setCell ⟨g, k * 7 + 4, none⟩ (.int .i64 x0.e)).setCell ⟨g, k * 7 + 5, none⟩ (.int .i64 x0.f)).setCell ⟨g, k * 7 + 6, none⟩ (.int .i64 x0.g)).ownsRow base e 7 (.slice (some ⟨g, 0, none⟩) n cap) n cs' ∧ Filled T7.v 7 l (k + 1) cs' ∧ w.grownBy (((((((wr.setCell ⟨g, k * 7, none⟩ (.int .i64 x0.a)).setCell ⟨g, k * 7 + 1, none⟩ (.int .i64 x0.b)).setCell ⟨g, k * 7 + 2, none⟩ (.int .i64 x0.c)).setCell ⟨g, k * 7 + 3, none⟩ (.int .i64 x0.d)).setCell ⟨g, k * 7 + 4, none⟩ (.int .i64 x0.e)).setCell ⟨g, k * 7 + 5, none⟩ (.int .i64 x0.f)).setCell ⟨g, k * 7 + 6, none⟩ (.int .i64 x0.g)) (Value.slice (some ⟨g, 0, none⟩) n cap).ownBlock := by
  have hl := h.1
  have h0 := (h.stored (k * 7) (.int .i64 x0.a)).1
  have h1 := (h0.stored (k * 7 + 1) (.int .i64 x0.b)).1
  have h2 := (h1.stored (k * 7 + 2) (.int .i64 x0.c)).1
  have h3 := (h2.stored (k * 7 + 3) (.int .i64 x0.d)).1
  have h4 := (h3.stored (k * 7 + 4) (.int .i64 x0.e)).1
  have h5 := (h4.stored (k * 7 + 5) (.int .i64 x0.f)).1
  have h6 := (h5.stored (k * 7 + 6) (.int .i64 x0.g)).1
  refine ⟨_, h6, hf.step T7.len hk (fun p hp => ?_) (fun j hj => ?_), ?_⟩
  · repeat rw [List.getElem?_set_ne (by omega)]
  · rw [← at7_eq l k hk, hx]
    have hb : k * 7 + 6 < cs.length := by rw [hl, ← hn]; have : k + 1 ≤ l.length := hk; have := Nat.mul_le_mul_right 7 this; omega
    match j, hj with
    | 0, _ =>
      rw [List.getElem?_set_ne (by omega)]
      rw [List.getElem?_set_ne (by omega)]
      rw [List.getElem?_set_ne (by omega)]
      rw [List.getElem?_set_ne (by omega)]
      rw [List.getElem?_set_ne (by omega)]
      rw [List.getElem?_set_ne (by omega)]
      rw [Nat.add_zero, List.getElem?_set_self (by first | omega | (simp only [List.length_set]; omega))]; rfl
    | 1, _ =>
      rw [List.getElem?_set_ne (by omega)]
      rw [List.getElem?_set_ne (by omega)]
      rw [List.getElem?_set_ne (by omega)]
      rw [List.getElem?_set_ne (by omega)]
      rw [List.getElem?_set_ne (by omega)]
      rw [List.getElem?_set_self (by first | omega | (simp only [List.length_set]; omega))]; rfl
    | 2, _ =>
      rw [List.getElem?_set_ne (by omega)]
      rw [List.getElem?_set_ne (by omega)]
      rw [List.getElem?_set_ne (by omega)]
      rw [List.getElem?_set_ne (by omega)]
      rw [List.getElem?_set_self (by first | omega | (simp only [List.length_set]; omega))]; rfl
    | 3, _ =>
      rw [List.getElem?_set_ne (by omega)]
      rw [List.getElem?_set_ne (by omega)]
      rw [List.getElem?_set_ne (by omega)]
      rw [List.getElem?_set_self (by first | omega | (simp only [List.length_set]; omega))]; rfl
    | 4, _ =>
      rw [List.getElem?_set_ne (by omega)]
      rw [List.getElem?_set_ne (by omega)]
      rw [List.getElem?_set_self (by first | omega | (simp only [List.length_set]; omega))]; rfl
    | 5, _ =>
      rw [List.getElem?_set_ne (by omega)]
      rw [List.getElem?_set_self (by first | omega | (simp only [List.length_set]; omega))]; rfl
    | 6, _ =>
      rw [List.getElem?_set_self (by first | omega | (simp only [List.length_set]; omega))]; rfl
  · exact only_row (only_row (only_row (only_row (only_row (only_row (only_row hg _ _) _ _) _ _) _ _) _ _) _ _) _ _
theorem own_step7 {w wr : World} {base g n cap k : Nat} {e : TypeId} {cs : List Value} {l : List T7} (h : wr.ownsRow base e 7 (.slice (some ⟨g, 0, none⟩) n cap) n cs) (hf : Filled T7.v 7 l k cs) (hk : k < l.length) (hn : l.length = n) (he : Ext w wr) (hg : w.heap.size ≤ g) (x : World) :
    ∃ cs', (ovr (((((((wr.setCell ⟨g, k * 7, none⟩ (.int .i64 (at7 l k).a)).setCell ⟨g, k * 7 + 1, none⟩ (.int .i64 (at7 l k).b)).setCell ⟨g, k * 7 + 2, none⟩ (.int .i64 (at7 l k).c)).setCell ⟨g, k * 7 + 3, none⟩ (.int .i64 (at7 l k).d)).setCell ⟨g, k * 7 + 4, none⟩ (.int .i64 (at7 l k).e)).setCell ⟨g, k * 7 + 5, none⟩ (.int .i64 (at7 l k).f)).setCell ⟨g, k * 7 + 6, none⟩ (.int .i64 (at7 l k).g)) x).ownsRow base e 7 (.slice (some ⟨g, 0, none⟩) n cap) n cs' ∧ Filled T7.v 7 l (k + 1) cs' ∧ Ext w (ovr (((((((wr.setCell ⟨g, k * 7, none⟩ (.int .i64 (at7 l k).a)).setCell ⟨g, k * 7 + 1, none⟩ (.int .i64 (at7 l k).b)).setCell ⟨g, k * 7 + 2, none⟩ (.int .i64 (at7 l k).c)).setCell ⟨g, k * 7 + 3, none⟩ (.int .i64 (at7 l k).d)).setCell ⟨g, k * 7 + 4, none⟩ (.int .i64 (at7 l k).e)).setCell ⟨g, k * 7 + 5, none⟩ (.int .i64 (at7 l k).f)).setCell ⟨g, k * 7 + 6, none⟩ (.int .i64 (at7 l k).g)) x) := by
  obtain ⟨cs', h1, h2, _⟩ := own_put7 (w := wr) (at7 l k) h hf hk rfl hn (World.grownBy.refl _ _)
  exact ⟨cs', own_ext h1 (ovr_below _ _), h2, (((((((he.setCell (by exact hg) _).setCell (by exact hg) _).setCell (by exact hg) _).setCell (by exact hg) _).setCell (by exact hg) _).setCell (by exact hg) _).setCell (by exact hg) _).over _⟩
def T7.ok (x : T7) : Prop := i64r x.a ∧ i64r x.b ∧ i64r x.c ∧ i64r x.d ∧ i64r x.e ∧ i64r x.f ∧ i64r x.g
theorem chunk7 : ∀ (n : Nat) (zs : List Int), zs.length = n * 7 → (∀ z ∈ zs, i64r z) → ∃ l : List T7, l.length = n ∧ zs.map (Value.int .i64) = l.flatMap T7.v ∧ ∀ x ∈ l, x.ok
  | 0, zs, h, _ => by
    obtain rfl : zs = [] := List.eq_nil_of_length_eq_zero (by omega)
    exact ⟨[], rfl, rfl, by simp⟩
  | n + 1, zs, h, hb => by
    match zs, h, hb with
    | a :: b :: c :: d :: e :: f :: g :: r, h, hb =>
      obtain ⟨l, h1, h2, h3⟩ := chunk7 n r (by simp at h; omega) (fun z hz => hb z (by simp [hz]))
      refine ⟨⟨a, b, c, d, e, f, g⟩ :: l, by simp [h1], by simp only [List.map_cons, List.flatMap_cons, h2]; rfl, fun x hx => ?_⟩
      rcases List.mem_cons.1 hx with rfl | hx
      · exact ⟨hb a (by simp), hb b (by simp), hb c (by simp), hb d (by simp), hb e (by simp), hb f (by simp), hb g (by simp)⟩
      · exact h3 x hx
    | [], h, _ => simp at h
    | a :: [], h, _ => simp at h; omega
    | a :: b :: [], h, _ => simp at h; omega
    | a :: b :: c :: [], h, _ => simp at h; omega
    | a :: b :: c :: d :: [], h, _ => simp at h; omega
    | a :: b :: c :: d :: e :: [], h, _ => simp at h; omega
    | a :: b :: c :: d :: e :: f :: [], h, _ => simp at h; omega
theorem at7_ok {l : List T7} (h : ∀ x ∈ l, x.ok) (i : Nat) : (at7 l i).ok := by
  unfold at7
  rcases Nat.lt_or_ge i l.length with h' | h'
  · rw [List.getD_eq_getElem?_getD, List.getElem?_eq_getElem h']; exact h _ (List.getElem_mem h')
  · rw [List.getD_eq_getElem?_getD, List.getElem?_eq_none h']; exact ⟨⟨by decide, by decide⟩, ⟨by decide, by decide⟩, ⟨by decide, by decide⟩, ⟨by decide, by decide⟩, ⟨by decide, by decide⟩, ⟨by decide, by decide⟩, ⟨by decide, by decide⟩⟩
def mks7 (q : Int) (n : Nat) : List T7 := (List.range n).map fun (k : Nat) => ⟨(q + 7 * ↑k), (q + 7 * ↑k + 1), (q + 7 * ↑k + 1 + 1), (q + 7 * ↑k + 1 + 1 + 1), (q + 7 * ↑k + 1 + 1 + 1 + 1), (q + 7 * ↑k + 1 + 1 + 1 + 1 + 1), (q + 7 * ↑k + 1 + 1 + 1 + 1 + 1 + 1)⟩
theorem mks7_len (q : Int) (n : Nat) : (mks7 q n).length = n := by simp [mks7]
theorem mks7_at (q : Int) (n k : Nat) (h : k < n) : at7 (mks7 q n) k = ⟨(q + 7 * ↑k), (q + 7 * ↑k + 1), (q + 7 * ↑k + 1 + 1), (q + 7 * ↑k + 1 + 1 + 1), (q + 7 * ↑k + 1 + 1 + 1 + 1), (q + 7 * ↑k + 1 + 1 + 1 + 1 + 1), (q + 7 * ↑k + 1 + 1 + 1 + 1 + 1 + 1)⟩ := by simp [at7, mks7, List.getD, h]

/-! ### Elements of 3 cells: EN -/
structure EN where
  a : Int
  b : ByteArray
  c : Int
def EN.v (x : EN) : List Value := [.int .i64 x.a, .string x.b, .int .i64 x.c]
def atEN (l : List EN) (i : Nat) : EN := l.getD i ⟨0, ByteArray.empty, 0⟩
theorem atEN_eq (l : List EN) (i : Nat) (h : i < l.length) : atEN l i = l[i] := by simp [atEN, List.getD, h]
theorem EN.len (x : EN) : x.v.length = 3 := rfl
theorem Row.en {w : World} {A : Option Addr} {l : List EN} (h : Row w A (l.flatMap EN.v)) {i : Nat} (hi : i < l.length) :
    ∃ b off, A = some ⟨b, off, none⟩ ∧ ∀ i, i < l.length → w.cell? ⟨b, off + i * 3, none⟩ = some (.int .i64 (atEN l i).a) ∧ w.cell? ⟨b, off + i * 3 + 1, none⟩ = some (.string (atEN l i).b) ∧ w.cell? ⟨b, off + i * 3 + 2, none⟩ = some (.int .i64 (atEN l i).c) := by
  obtain ⟨b, off, rfl, hc⟩ := h.at_ (j := i * 3) (by rw [flat_len _ 3 EN.len]; omega)
  refine ⟨b, off, rfl, fun i hi => ?_⟩
  rw [atEN_eq l i hi]
  refine ⟨?_, ?_, ?_⟩
  · have := hc (i * 3 + 0) _ (flat_get EN.v 3 EN.len l i 0 hi (by omega)); simpa using this
  · have := hc (i * 3 + 1) _ (flat_get EN.v 3 EN.len l i 1 hi (by omega)); simpa [Nat.add_assoc] using this
  · have := hc (i * 3 + 2) _ (flat_get EN.v 3 EN.len l i 2 hi (by omega)); simpa [Nat.add_assoc] using this
theorem own_putEN {w wr : World} {base g n cap k : Nat} {e : TypeId} {cs : List Value} {l : List EN} (x0 : EN) (h : wr.ownsRow base e 3 (.slice (some ⟨g, 0, none⟩) n cap) n cs) (hf : Filled EN.v 3 l k cs) (hk : k < l.length) (hx : atEN l k = x0) (hn : l.length = n) (hg : w.grownBy wr (Value.slice (some ⟨g, 0, none⟩) n cap).ownBlock) :
    ∃ cs', (((wr.setCell ⟨g, k * 3, none⟩ (.int .i64 x0.a)).setCell ⟨g, k * 3 + 1, none⟩ (.string x0.b)).setCell ⟨g, k * 3 + 2, none⟩ (.int .i64 x0.c)).ownsRow base e 3 (.slice (some ⟨g, 0, none⟩) n cap) n cs' ∧ Filled EN.v 3 l (k + 1) cs' ∧ w.grownBy (((wr.setCell ⟨g, k * 3, none⟩ (.int .i64 x0.a)).setCell ⟨g, k * 3 + 1, none⟩ (.string x0.b)).setCell ⟨g, k * 3 + 2, none⟩ (.int .i64 x0.c)) (Value.slice (some ⟨g, 0, none⟩) n cap).ownBlock := by
  have hl := h.1
  have h0 := (h.stored (k * 3) (.int .i64 x0.a)).1
  have h1 := (h0.stored (k * 3 + 1) (.string x0.b)).1
  have h2 := (h1.stored (k * 3 + 2) (.int .i64 x0.c)).1
  refine ⟨_, h2, hf.step EN.len hk (fun p hp => ?_) (fun j hj => ?_), ?_⟩
  · repeat rw [List.getElem?_set_ne (by omega)]
  · rw [← atEN_eq l k hk, hx]
    have hb : k * 3 + 2 < cs.length := by rw [hl, ← hn]; have : k + 1 ≤ l.length := hk; have := Nat.mul_le_mul_right 3 this; omega
    match j, hj with
    | 0, _ =>
      rw [List.getElem?_set_ne (by omega)]
      rw [List.getElem?_set_ne (by omega)]
      rw [Nat.add_zero, List.getElem?_set_self (by first | omega | (simp only [List.length_set]; omega))]; rfl
    | 1, _ =>
      rw [List.getElem?_set_ne (by omega)]
      rw [List.getElem?_set_self (by first | omega | (simp only [List.length_set]; omega))]; rfl
    | 2, _ =>
      rw [List.getElem?_set_self (by first | omega | (simp only [List.length_set]; omega))]; rfl
  · exact only_row (only_row (only_row hg _ _) _ _) _ _
theorem own_stepEN {w wr : World} {base g n cap k : Nat} {e : TypeId} {cs : List Value} {l : List EN} (h : wr.ownsRow base e 3 (.slice (some ⟨g, 0, none⟩) n cap) n cs) (hf : Filled EN.v 3 l k cs) (hk : k < l.length) (hn : l.length = n) (he : Ext w wr) (hg : w.heap.size ≤ g) (x : World) :
    ∃ cs', (ovr (((wr.setCell ⟨g, k * 3, none⟩ (.int .i64 (atEN l k).a)).setCell ⟨g, k * 3 + 1, none⟩ (.string (atEN l k).b)).setCell ⟨g, k * 3 + 2, none⟩ (.int .i64 (atEN l k).c)) x).ownsRow base e 3 (.slice (some ⟨g, 0, none⟩) n cap) n cs' ∧ Filled EN.v 3 l (k + 1) cs' ∧ Ext w (ovr (((wr.setCell ⟨g, k * 3, none⟩ (.int .i64 (atEN l k).a)).setCell ⟨g, k * 3 + 1, none⟩ (.string (atEN l k).b)).setCell ⟨g, k * 3 + 2, none⟩ (.int .i64 (atEN l k).c)) x) := by
  obtain ⟨cs', h1, h2, _⟩ := own_putEN (w := wr) (atEN l k) h hf hk rfl hn (World.grownBy.refl _ _)
  exact ⟨cs', own_ext h1 (ovr_below _ _), h2, (((he.setCell (by exact hg) _).setCell (by exact hg) _).setCell (by exact hg) _).over _⟩
def EN.ok (x : EN) : Prop := i64r x.a ∧ x.b.size ≤ 9223372036854775807 ∧ i64r x.c
def mksEN (tx : Int → ByteArray) (q : Int) (n : Nat) : List EN := (List.range n).map fun (k : Nat) => ⟨(q + 3 * ↑k), tx (q + 3 * ↑k + 1), (q + 3 * ↑k + 1 + 1)⟩
theorem mksEN_len (tx : Int → ByteArray) (q : Int) (n : Nat) : (mksEN tx q n).length = n := by simp [mksEN]
theorem mksEN_at (tx : Int → ByteArray) (q : Int) (n k : Nat) (h : k < n) : atEN (mksEN tx q n) k = ⟨(q + 3 * ↑k), tx (q + 3 * ↑k + 1), (q + 3 * ↑k + 1 + 1)⟩ := by simp [atEN, mksEN, List.getD, h]
end Go.Proofs.Ytkifapcegiajiaa
