/-
  Appending to a slice of the call's own, and lists of the numbers that pass a test. Conditions: the sizes that Go's own append asks.
-/
import Derived.Test.YtkifapcegiajiaaRow
import Derived.Laws.AppendOwnNone
import Derived.Deep.AppendLies
namespace Go.Proofs.Ytkifapcegiajiaa
open Go.RowKit

theorem own_form {w : World} {base : Nat} {e : TypeId} {size n : Nat} {v : Value} {cs : List Value} (h : w.ownsRow base e size v n cs) : ∃ A c, v = .slice A n c := by
  rcases h.2 with ⟨hv, rfl⟩ | ⟨g, cap, cur, hv, _⟩
  · exact ⟨_, _, hv⟩
  · exact ⟨_, _, hv⟩

theorem grown_ext {wa w w' : World} {base : Nat} {e : TypeId} {size n : Nat} {v : Value} {cs : List Value} (he : Ext wa w) (ho : w.ownsRow base e size v n cs) (hb : wa.heap.size ≤ base) (hg : w.grownBy w' v.ownBlock) : Ext wa w' :=
  Below.grown he hg he.size fun k hk => Nat.le_trans hb (ho.lt k hk).1

section
variable {P : Program} {w : World} {ops : Array Oper} {rest : List Oper} {o : Oper} {a : Act} {Q : Exit → Act → World → Prop}
/-- append of cells that lie in memory to a row that the call owns. -/
theorem wpList_push (wa : World) (hgd : o.guard = none) (s x : Operand) (t : TypeId)
    (ho : o.op = .call { callee := .builtin .append, args := #[s, x], argTypes := #[t, t] })
    (e : TypeId) {z : Value} {size bytes : Nat} (ht : P.underlying t = some (.slice e)) (hinfo : (P.info? e).map (fun i => (i.zero, i.size, i.bytes)) = some (some z, size, bytes)) (hzs : z.cells.size = size) (hsz : 0 < size)
    (v : Value) (n : Nat) (xs : List Value) (hs : a.eval s = v) (w0 : World) (hown : w0.ownsRow wa.heap.size e size v n xs) (he0 : Ext w0 w) (hea : Ext wa w)
    (ad : Addr) (m c : Nat) (news : List Value) (hx : a.eval x = .slice (some ad) m c) (hl : news.length = m * size) (hnews : ∀ j u, news[j]? = some u → w.cell? (ad.add j) = some u) (h1 : ∀ u ∈ news, u.oneCell' = true)
    (h63 : n + m ≤ 1000000000000) (hby : bytes ≤ 100)
    (h : ∀ A' c' w', w'.ownsRow wa.heap.size e size (.slice A' (n + m) c') (n + m) (xs ++ news) → Ext wa w' → wpList P ops Q rest (a.put o.dst (.slice A' (n + m) c')) w') : wpList P ops Q (o :: rest) a w := by
  obtain ⟨i, hi, hz0, hz1, hz2⟩ := info_parts hinfo
  have hown' := own_ext hown he0
  refine wpList_append_own w hgd s x t ho wa.heap.size e i z size bytes ht hi hz0 hz1 hz2 hzs hsz v n xs hs hown' ad m c news hx hl hnews h1 (by unfold maxLen; omega) ?_ hea.size ?_
  · have := Nat.mul_le_mul h63 hby; omega
  · intro v' w' hw' hg _
    obtain ⟨A', c', rfl⟩ := own_form hw'
    exact h A' c' w' hw' (grown_ext hea hown' (Nat.le_refl _) hg)
/-- append of a slice that reads as these cells, whatever its length. -/
theorem wpList_pushS (wa : World) (hgd : o.guard = none) (s x : Operand) (t : TypeId)
    (ho : o.op = .call { callee := .builtin .append, args := #[s, x], argTypes := #[t, t] })
    (e : TypeId) {z : Value} {size bytes : Nat} (ht : P.underlying t = some (.slice e)) (hinfo : (P.info? e).map (fun i => (i.zero, i.size, i.bytes)) = some (some z, size, bytes)) (hzs : z.cells.size = size) (hsz : 0 < size)
    (v : Value) (n : Nat) (xs : List Value) (hs : a.eval s = v) (w0 : World) (hown : w0.ownsRow wa.heap.size e size v n xs) (he0 : Ext w0 w) (hea : Ext wa w)
    (B : Option Addr) (m c : Nat) (news : List Value) (hx : a.eval x = .slice B m c) (hBc : B = none → c = 0) (hl : news.length = m * size) (hrow : Row w B news) (h1 : ∀ u ∈ news, u.oneCell' = true)
    (h63 : n + m ≤ 1000000000000) (hby : bytes ≤ 100)
    (h : ∀ A' c' w', w'.ownsRow wa.heap.size e size (.slice A' (n + m) c') (n + m) (xs ++ news) → Ext wa w' → wpList P ops Q rest (a.put o.dst (.slice A' (n + m) c')) w') : wpList P ops Q (o :: rest) a w := by
  cases B with
  | none =>
    have hm : m = 0 := by
      rcases Nat.eq_zero_or_pos m with h0 | h0
      · exact h0
      · have : news ≠ [] := fun e => by subst e; have := Nat.mul_pos h0 hsz; rw [List.length_nil] at hl; omega
        obtain ⟨b, off, h2, _⟩ := hrow this
        cases h2
    subst hm
    obtain rfl := hBc rfl
    have hn0 : news = [] := List.eq_nil_of_length_eq_zero (by omega)
    subst hn0
    obtain ⟨i, hi, hz0, hz1, hz2⟩ := info_parts hinfo
    have hown' := own_ext hown he0
    obtain ⟨A', c', rfl⟩ := own_form hown'
    refine wpList_append_own_none hgd s x t ho wa.heap.size e i size ht hi _ n xs hs hown' hx ?_
    have := h A' c' w (by simpa using hown') hea
    simpa using this
  | some ad =>
    refine wpList_push wa hgd s x t ho e ht hinfo hzs hsz v n xs hs w0 hown he0 hea ad m c news hx hl (fun j u hu => ?_) h1 h63 hby h
    have hne : news ≠ [] := fun e => by subst e; simp at hu
    obtain ⟨b, off, h2, h3⟩ := hrow hne
    cases h2
    rw [show (⟨b, off, none⟩ : Addr).add j = ⟨b, off + j, none⟩ from by unfold Addr.add; split <;> simp_all]
    exact h3 j u hu
end

/-- A literal that was just laid. -/
theorem lit_cells (w : World) (g : Nat) (hg : g = w.heap.size) (cs : List Value) (t : TypeId) : ∀ j u, cs[j]? = some u → (w.alloc (.cells cs.toArray t)).cell? ((⟨g, 0, none⟩ : Addr).add j) = some u := by
  intro j u hu
  subst hg
  rw [show (⟨w.heap.size, 0, none⟩ : Addr).add j = ⟨w.heap.size, j, none⟩ from by unfold Addr.add; split <;> simp_all]
  rw [World.cell?_alloc_new]
  simpa using hu

/-- An empty literal. -/
theorem own_empty (w : World) (g B : Nat) (hg : g = w.heap.size) (hB : B ≤ w.heap.size) (e : TypeId) (size : Nat) : (w.alloc (.cells #[] e)).ownsRow B e size (.slice (some ⟨g, 0, none⟩) 0 0) 0 [] := by
  subst hg
  exact World.ownsRow_made w #[] 0 hB (Nat.zero_le _) (by simp)
theorem own_base {w : World} {base base' : Nat} {e : TypeId} {size n : Nat} {v : Value} {cs : List Value} (h : w.ownsRow base e size v n cs) (hb : base' ≤ base) : w.ownsRow base' e size v n cs := by
  refine ⟨h.1, ?_⟩
  rcases h.2 with h2 | ⟨g, cap, cur, hv, hg, r⟩
  · exact Or.inl h2
  · exact Or.inr ⟨g, cap, cur, hv, by omega, r⟩

theorem own_none {w : World} {base : Nat} {e : TypeId} {size n c : Nat} {A : Option Addr} {cs : List Value} (h : w.ownsRow base e size (.slice A n c) n cs) : A = none → c = 0 := by
  intro hA
  rcases h.2 with ⟨hv, _⟩ | ⟨g, cap, cur, hv, _⟩
  · injection hv
  · subst hA; injection hv with h1; cases h1

/-! ### A row that was laid before other rows, and is appended to behind them -/
/-- Since w1 only the row at block b0 has been written, or rows laid since; the row lies at b0 or has been laid since. -/
def OutAt (w1 wr : World) (b0 : Nat) (A : Option Addr) : Prop := w1.grownBy wr (some b0) ∧ (A = some ⟨b0, 0, none⟩ ∨ ∃ g, A = some ⟨g, 0, none⟩ ∧ w1.heap.size ≤ g)
theorem OutAt.refl (w1 : World) (b0 : Nat) : OutAt w1 w1 b0 (some ⟨b0, 0, none⟩) := ⟨World.grownBy.refl _ _, .inl rfl⟩
theorem grown_then {w1 w2 w3 : World} {row row' : Option Nat} (h : w1.grownBy w2 row) (g : w2.grownBy w3 row') (hr : row' = row ∨ ∀ k, row' = some k → w1.heap.size ≤ k) : w1.grownBy w3 row :=
  ⟨g.os.trans h.os, g.tape.trans h.tape, g.output.trans h.output, Nat.le_trans h.size g.size, fun i hi hne => (g.block i (Nat.lt_of_lt_of_le hi h.size) (by
    rcases hr with rfl | hr
    · exact hne
    · intro e
      have := hr i e.symm
      omega)).trans (h.block i hi hne)⟩
theorem ext_grown {w w' : World} (h : Ext w w') (row : Option Nat) : w.grownBy w' row := ⟨h.os, h.tape, h.output, h.size, fun i hi _ => h.block i hi⟩
theorem OutAt.ext {w1 wr w' : World} {b0 : Nat} {A : Option Addr} (h : OutAt w1 wr b0 A) (he : Ext wr w') : OutAt w1 w' b0 A :=
  ⟨grown_then h.1 (ext_grown he (some b0)) (.inl rfl), h.2⟩
theorem OutAt.kept {w1 wr : World} {b0 : Nat} {A : Option Addr} (h : OutAt w1 wr b0 A) {base : Nat} {e : TypeId} {size n : Nat} {v : Value} {cs : List Value} (ho : w1.ownsRow base e size v n cs) (hb : b0 < base) : wr.ownsRow base e size v n cs :=
  ho.kept h.1 (.inr fun e => by have := (ho.lt b0 e).1; omega)
theorem OutAt.cell {w1 wr : World} {b0 : Nat} {A : Option Addr} (h : OutAt w1 wr b0 A) {p : Addr} (hp : p.block < w1.heap.size) (hb : p.block ≠ b0) : wr.cell? p = w1.cell? p :=
  World.cell?_of_block (h.1.block p.block hp (by intro e; injection e; exact hb ‹_›))
theorem OutAt.out {w w1 wr : World} {b0 : Nat} {A : Option Addr} (h : OutAt w1 wr b0 A) (he : Ext w w1) (hb : w.heap.size ≤ b0) : Ext w wr :=
  Below.grown he h.1 he.size fun k hk => by injection hk with hk; omega
theorem OutAt.size {w1 wr : World} {b0 : Nat} {A : Option Addr} (h : OutAt w1 wr b0 A) : w1.heap.size ≤ wr.heap.size := h.1.size
section
variable {P : Program} {w : World} {ops : Array Oper} {rest : List Oper} {o : Oper} {a : Act} {Q : Exit → Act → World → Prop}
theorem wpList_pushO (w1 : World) (b0 : Nat) (hgd : o.guard = none) (s x : Operand) (t : TypeId)
    (ho : o.op = .call { callee := .builtin .append, args := #[s, x], argTypes := #[t, t] })
    (e : TypeId) {z : Value} {size bytes : Nat} (ht : P.underlying t = some (.slice e)) (hinfo : (P.info? e).map (fun i => (i.zero, i.size, i.bytes)) = some (some z, size, bytes)) (hzs : z.cells.size = size) (hsz : 0 < size)
    (base : Nat) (A : Option Addr) (n c : Nat) (xs : List Value) (hs : a.eval s = .slice A n c) (w0 : World) (hown : w0.ownsRow base e size (.slice A n c) n xs) (hout : OutAt w1 w0 b0 A) (he0 : Ext w0 w) (hbase : base ≤ w1.heap.size)
    (ad : Addr) (m c' : Nat) (news : List Value) (hx : a.eval x = .slice (some ad) m c') (hl : news.length = m * size) (hnews : ∀ j u, news[j]? = some u → w.cell? (ad.add j) = some u) (h1 : ∀ u ∈ news, u.oneCell' = true) (hm : 0 < m)
    (h63 : n + m ≤ 1000000000000) (hby : bytes ≤ 100)
    (h : ∀ A' c' w', w'.ownsRow base e size (.slice A' (n + m) c') (n + m) (xs ++ news) → OutAt w1 w' b0 A' → wpList P ops Q rest (a.put o.dst (.slice A' (n + m) c')) w') : wpList P ops Q (o :: rest) a w := by
  obtain ⟨i, hi, hz0, hz1, hz2⟩ := info_parts hinfo
  have hown' := own_ext hown he0
  have hout' := hout.ext he0
  have hsize := hout'.size
  refine wpList_append_lies w hgd s x t ho base e i z size bytes ht hi hz0 hz1 hz2 hzs hsz _ n xs hs hown' ad m c' news hx hl hnews h1 hm (by unfold maxLen; omega) ?_ (by omega) w.heap.size rfl ?_
  · have := Nat.mul_le_mul h63 hby; omega
  · intro g cap w' hw' hg hor _
    have hv : (Value.slice A n c).ownBlock = some b0 ∨ ∃ k, (Value.slice A n c).ownBlock = some k ∧ w1.heap.size ≤ k := by
      rcases hout'.2 with rfl | ⟨k, rfl, hk⟩
      · exact .inl rfl
      · exact .inr ⟨k, rfl, hk⟩
    refine h _ _ w' hw' ⟨grown_then hout'.1 hg ?_, ?_⟩
    · rcases hv with hv | ⟨k, hv, hk⟩
      · exact .inl hv
      · exact .inr fun q hq => by rw [hv] at hq; injection hq with hq; omega
    · rcases hor with hor | rfl
      · rcases hv with hv | ⟨k, hv, hk⟩
        · rw [hv] at hor; injection hor with hor; subst hor; exact .inl rfl
        · rw [hv] at hor; injection hor with hor; subst hor; exact .inr ⟨k, rfl, hk⟩
      · exact .inr ⟨_, rfl, hsize⟩
end

/-! ### Rows of the call's own that differ -/
theorem own_ne {w1 w2 : World} {b1 b2 : Nat} {e1 e2 : TypeId} {s1 s2 n1 n2 : Nat} {v1 v2 : Value} {c1 c2 : List Value} (h1 : w1.ownsRow b1 e1 s1 v1 n1 c1) (h2 : w2.ownsRow b2 e2 s2 v2 n2 c2) (hle : w1.heap.size ≤ b2) :
    v1.ownBlock = none ∨ v1.ownBlock ≠ v2.ownBlock := by
  cases hv : v1.ownBlock with
  | none => exact .inl rfl
  | some k =>
    refine .inr fun e => ?_
    have := (h1.lt k hv).2
    have := (h2.lt k e.symm).1
    omega
theorem own_ne' {w1 w2 : World} {b1 b2 : Nat} {e1 e2 : TypeId} {s1 s2 n1 n2 : Nat} {v1 v2 : Value} {c1 c2 : List Value} (h1 : w1.ownsRow b1 e1 s1 v1 n1 c1) (h2 : w2.ownsRow b2 e2 s2 v2 n2 c2) (hle : w1.heap.size ≤ b2) :
    v2.ownBlock = none ∨ v2.ownBlock ≠ v1.ownBlock := by
  cases hv : v2.ownBlock with
  | none => exact .inl rfl
  | some k =>
    refine .inr fun e => ?_
    have := (h2.lt k hv).1
    have := (h1.lt k e.symm).2
    omega
theorem own_len {w : World} {b : Nat} {e : TypeId} {n : Nat} {v : Value} {L : List Int} (h : w.ownsRow b e 1 v n (L.map (Value.int .i64))) : L.length = n := by
  have := h.1
  simpa using this

/-- The numbers below k that pass a test. -/
def idxs (p : Nat → Bool) (k : Nat) : List Int := ((List.range k).filter p).map fun (j : Nat) => (j : Int)
theorem idxs_zero (p : Nat → Bool) : idxs p 0 = [] := rfl
theorem idxs_yes {p : Nat → Bool} {k : Nat} (h : p k = true) : idxs p (k + 1) = idxs p k ++ [(k : Int)] := by
  simp [idxs, List.range_succ, h]
theorem idxs_no {p : Nat → Bool} {k : Nat} (h : p k = false) : idxs p (k + 1) = idxs p k := by
  simp [idxs, List.range_succ, h]
theorem idxs_len (p : Nat → Bool) (k : Nat) : (idxs p k).length ≤ k := by
  have := List.length_filter_le p (List.range k)
  simp only [idxs, List.length_map]
  simpa using this
theorem idxs_mem {p : Nat → Bool} {k : Nat} {x : Int} : x ∈ idxs p k ↔ ∃ j : Nat, x = j ∧ j < k ∧ p j = true := by
  simp only [idxs, List.mem_map, List.mem_filter, List.mem_range]
  constructor
  · rintro ⟨j, ⟨h1, h2⟩, rfl⟩; exact ⟨j, rfl, h1, h2⟩
  · rintro ⟨j, rfl, h1, h2⟩; exact ⟨j, ⟨h1, h2⟩, rfl⟩
end Go.Proofs.Ytkifapcegiajiaa
