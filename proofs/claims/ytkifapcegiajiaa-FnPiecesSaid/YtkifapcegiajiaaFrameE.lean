/-
  Opening arguments: slices of whatever elements, structs of an integer and a slice, structs of one slice, elements of an integer, a string and an integer. No condition.
-/
import Derived.Test.YtkifapcegiajiaaFrame
import Derived.Test.YtkifapcegiajiaaRowM
namespace Go.Proofs.Ytkifapcegiajiaa
open Go.ChangeShapes Go.WideShapes Go.ChangeAt Go.RowKit Go.Deep

section
variable {H : Type} {enc : TypeId × Value → H} {P : Program}

theorem elem_slice {w : World} {base : Nat} {spare : Nat → Bool} {held : Bool} {fuel m : Nat} {t e : TypeId} {cs : List Value} {x : DataW H × List MemPlace} {G : List Value → Prop} (ht : P.underlying t = some (.slice e))
    (hG : ∀ fuel cs x, DataW.trod enc P w base spare held fuel e cs = some x → cs.length = m ∧ G cs) (hm : P.cellsOf e = m) (h : DataW.trod enc P w base spare held fuel t cs = some x) :
    ∃ A n c, ∃ css : List (List Value), cs = [.slice A n c] ∧ css.length = n ∧ n ≤ maxLen ∧ (A = none → c = 0) ∧ Row w A css.flatten ∧ ∀ c ∈ css, c.length = m ∧ G c := by
  rcases open_slice ht h with ⟨hcs, _⟩ | ⟨a, n, c, m', n', D, Pl, hcs, _, hl, hcap, hmm, _, hall⟩
  · exact ⟨none, 0, 0, [], hcs, rfl, Nat.zero_le _, fun _ => rfl, Row.nil _ _, by simp⟩
  · have hlm : n ≤ m' := by rw [hmm]; split <;> omega
    have key : ∀ k, k ≤ n → ∃ css : List (List Value), css.length = k ∧ css.flatten.length = k * m ∧ (∀ j u, css.flatten[j]? = some u → w.cell? (a.add j) = some u) ∧ ∀ c ∈ css, c.length = m ∧ G c := by
      intro k
      induction k with
      | zero => exact fun _ => ⟨[], by simp, by simp, by simp, by simp⟩
      | succ k ih =>
        intro hk
        obtain ⟨css, h0, h1, h2, h3⟩ := ih (by omega)
        obtain ⟨cs', hc, ht'⟩ := hall k (by omega)
        rw [hm] at hc
        obtain ⟨_, hlen, hcell⟩ := World.cells?_some hc
        obtain ⟨h4, h5⟩ := hG _ _ _ ht'
        refine ⟨css ++ [cs'], by simp [h0], by simp [List.flatten_append, h4, h1, Nat.add_mul], fun j u hu => ?_, fun c hc => ?_⟩
        · rw [List.flatten_append, List.getElem?_append] at hu
          split at hu
          · exact h2 j u hu
          · rename_i hj
            have hu' : cs'[j - css.flatten.length]? = some u := by simpa using hu
            have hjl : j - css.flatten.length < cs'.length := (List.getElem?_eq_some_iff.1 hu').1
            have := hcell (j - css.flatten.length) (by omega)
            rw [Go.Deep.add_add, h1, show k * m + (j - k * m) = j from by omega] at this
            rw [this]
            rw [h1] at hu'
            exact hu'
        · rcases List.mem_append.1 hc with hc | hc
          · exact h3 c hc
          · obtain rfl : c = cs' := by simpa using hc
            exact ⟨h4, h5⟩
    obtain ⟨css, h0, h1, h2, h3⟩ := key n (Nat.le_refl _)
    refine ⟨some a, n, c, css, hcs, h0, by omega, (fun h => by cases h), fun hne => ?_, h3⟩
    have hp : 0 < css.flatten.length := List.length_pos_iff.2 hne
    have h00 := h2 0 _ (List.getElem?_eq_getElem hp)
    obtain ⟨b, off, sp⟩ := a
    have hsp : sp = none := by
      cases sp with
      | none => rfl
      | some s =>
        exfalso
        rw [show (⟨b, off, some s⟩ : Addr).add 0 = ⟨b, off, some s⟩ from by unfold Addr.add; simp] at h00
        unfold World.cell? at h00
        split at h00 <;> simp at h00
    subst hsp
    refine ⟨b, off, rfl, fun j u hu => ?_⟩
    rw [← add_none]
    exact h2 j u hu

def intsG (cs : List Value) : Prop := ∀ c ∈ cs, ∃ z, c = .int .i64 z ∧ (Lit.int .i64 z).wf = true
/-- A slice of structs of integers, as cells. -/
theorem flat_slice {w : World} {base : Nat} {spare : Nat → Bool} {held : Bool} {fuel f m : Nat} {t e : TypeId} {cs : List Value} {x : DataW H × List MemPlace} (ht : P.underlying t = some (.slice e)) (hf : flatInts P f e = true) (hm : P.cellsOf e = m)
    (h : DataW.trod enc P w base spare held fuel t cs = some x) :
    ∃ A n c, ∃ zs : List Int, cs = [.slice A n c] ∧ zs.length = n * m ∧ n ≤ maxLen ∧ Row w A (zs.map (Value.int .i64)) ∧ ∀ z ∈ zs, i64r z := by
  obtain ⟨A, n, c, css, h1, h2, h3, _, h4, h5⟩ := elem_slice (G := intsG) (m := m) ht (fun fuel cs x h => by
    obtain ⟨h1, h2⟩ := flat_cells f e _ _ _ hf h
    exact ⟨h1.trans hm, h2⟩) hm h
  obtain ⟨zs, h6, h7⟩ := flat_list (cs := css.flatten) (fun c hc => by
    obtain ⟨l, hl, hc⟩ := List.mem_flatten.1 hc
    exact (h5 l hl).2 c hc)
  refine ⟨A, n, c, zs, h1, ?_, h3, h6 ▸ h4, h7⟩
  have h8 : css.flatten.length = n * m := by
    have : ∀ l : List (List Value), (∀ c ∈ l, c.length = m) → l.flatten.length = l.length * m := by
      intro l
      induction l with
      | nil => intro _; simp
      | cons c l ih =>
        intro h
        rw [List.flatten_cons, List.length_append, ih (fun c hc => h c (by simp [hc])), h c (by simp), List.length_cons, Nat.add_mul]
        omega
    rw [this css (fun c hc => (h5 c hc).1), h2]
  have := congrArg List.length h6
  simp at this h8
  omega

theorem fieldAt {fs : Array Field} {i t off : Nat} (h : (fs[i]?).map (fun f => (f.type, f.offset)) = some (t, off)) : ∃ f, fs[i]? = some f ∧ f.type = t ∧ f.offset = off := by
  cases hf : fs[i]? with
  | none => rw [hf] at h; simp at h
  | some f => rw [hf] at h; simp at h; exact ⟨f, rfl, h.1, h.2⟩
/-- A struct of an integer and a slice of structs of integers. -/
theorem open_house {w : World} {base : Nat} {spare : Nat → Bool} {held : Bool} {r : Reach} {b0 f m : Nat} {t ti ts e : TypeId} {fs : Array Field} {v : Value} {d : DataW H} {p : List MemPlace} (hu : P.underlying t = some (.struct fs))
    (h0 : (fs[0]?).map (fun f => (f.type, f.offset)) = some (ti, 0)) (h1 : (fs[1]?).map (fun f => (f.type, f.offset)) = some (ts, 1)) (hc : P.cellsOf t = 2) (hc0 : P.cellsOf ti = 1) (hc1 : P.cellsOf ts = 1) (hi : P.underlying ti = some (.int .i64))
    (hs : P.underlying ts = some (.slice e)) (hf : flatInts P f e = true) (hm : P.cellsOf e = m) (hv : Value.okWide P w r b0 t v) (h : DataW.Trod enc P w base spare held t v d p) :
    ∃ (hh : Int) (A : Option Addr) (n c : Nat) (zs : List Int), v = .agg #[.int .i64 hh, .slice A n c] ∧ i64r hh ∧ zs.length = n * m ∧ n ≤ maxLen ∧ Row w A (zs.map (Value.int .i64)) ∧ ∀ z ∈ zs, i64r z := by
  obtain ⟨cs, rfl, hsz⟩ := okWide_struct hu hv
  obtain ⟨fuel, hf'⟩ := h
  obtain ⟨xs, k, _, _, hlen, hxl, hall⟩ := DataW.trod_struct hu hf'
  obtain ⟨f0, g0, g1, g2⟩ := fieldAt h0
  obtain ⟨f1, g3, g4, g5⟩ := fieldAt h1
  have a0 := hall 0 f0 g0
  have a1 := hall 1 f1 g3
  have l0 := (Array.getElem?_eq_some_iff.1 g0).1
  have l1 := (Array.getElem?_eq_some_iff.1 g3).1
  rw [List.getElem?_eq_getElem (by omega)] at a0 a1
  rw [g1, g2, hc0] at a0
  rw [g4, g5, hc1] at a1
  obtain ⟨z, e0, _, hz⟩ := DataW.trod_int hi a0
  obtain ⟨A, n, c, zs, e1, e2, e3, e4, e5⟩ := flat_slice hs hf hm a1
  refine ⟨z, A, n, c, zs, ?_, i64r_of hz, e2, e3, e4, e5⟩
  congr 1
  rw [hc] at hsz
  simp only [Value.cells] at e0 e1
  apply Array.ext'
  obtain ⟨l, hl⟩ : ∃ l, cs.toList = l := ⟨_, rfl⟩
  rw [hl] at e0 e1 ⊢
  have hll : l.length = 2 := by rw [← hl]; simpa using hsz
  match l, hll with
  | [p, q], _ => simp at e0 e1; simp [e0, e1]
/-- A struct of one slice of structs of integers. -/
theorem open_room {w : World} {base : Nat} {spare : Nat → Bool} {held : Bool} {r : Reach} {b0 f m : Nat} {t ts e : TypeId} {fs : Array Field} {v : Value} {d : DataW H} {p : List MemPlace} (hu : P.underlying t = some (.struct fs))
    (h1 : (fs[0]?).map (fun f => (f.type, f.offset)) = some (ts, 0)) (hc : P.cellsOf t = 1) (hc1 : P.cellsOf ts = 1)
    (hs : P.underlying ts = some (.slice e)) (hf : flatInts P f e = true) (hm : P.cellsOf e = m) (hv : Value.okWide P w r b0 t v) (h : DataW.Trod enc P w base spare held t v d p) :
    ∃ (A : Option Addr) (n c : Nat) (zs : List Int), v = .agg #[.slice A n c] ∧ zs.length = n * m ∧ n ≤ maxLen ∧ Row w A (zs.map (Value.int .i64)) ∧ ∀ z ∈ zs, i64r z := by
  obtain ⟨cs, rfl, hsz⟩ := okWide_struct hu hv
  obtain ⟨fuel, hf'⟩ := h
  obtain ⟨xs, k, _, _, hlen, hxl, hall⟩ := DataW.trod_struct hu hf'
  obtain ⟨f1, g3, g4, g5⟩ := fieldAt h1
  have a1 := hall 0 f1 g3
  have l1 := (Array.getElem?_eq_some_iff.1 g3).1
  rw [List.getElem?_eq_getElem (by omega)] at a1
  rw [g4, g5, hc1] at a1
  obtain ⟨A, n, c, zs, e1, e2, e3, e4, e5⟩ := flat_slice hs hf hm a1
  refine ⟨A, n, c, zs, ?_, e2, e3, e4, e5⟩
  congr 1
  rw [hc] at hsz
  simp only [Value.cells] at e1
  apply Array.ext'
  obtain ⟨l, hl⟩ : ∃ l, cs.toList = l := ⟨_, rfl⟩
  rw [hl] at e1 ⊢
  have hll : l.length = 1 := by rw [← hl]; simpa using hsz
  match l, hll with
  | [q], _ => simp at e1; simp [e1]

def enG (cs : List Value) : Prop := ∃ x : EN, cs = x.v ∧ x.ok
theorem cells_en {w : World} {base : Nat} {spare : Nat → Bool} {held : Bool} {t ti tt : TypeId} {fs : Array Field} (hu : P.underlying t = some (.struct fs))
    (h0 : (fs[0]?).map (fun f => (f.type, f.offset)) = some (ti, 0)) (h1 : (fs[1]?).map (fun f => (f.type, f.offset)) = some (tt, 1)) (h2 : (fs[2]?).map (fun f => (f.type, f.offset)) = some (ti, 2)) (hc : P.cellsOf t = 3) (hc0 : P.cellsOf ti = 1) (hc1 : P.cellsOf tt = 1)
    (hi : P.underlying ti = some (.int .i64)) (hs : P.underlying tt = some .string) (fuel : Nat) (cs : List Value) (x : DataW H × List MemPlace) (h : DataW.trod enc P w base spare held fuel t cs = some x) : cs.length = 3 ∧ enG cs := by
  obtain ⟨xs, k, _, _, hlen, hxl, hall⟩ := DataW.trod_struct hu h
  obtain ⟨f0, g0, g1, g2⟩ := fieldAt h0
  obtain ⟨f1, g3, g4, g5⟩ := fieldAt h1
  obtain ⟨f2, g6, g7, g8⟩ := fieldAt h2
  have a0 := hall 0 f0 g0
  have a1 := hall 1 f1 g3
  have a2 := hall 2 f2 g6
  have l2 := (Array.getElem?_eq_some_iff.1 g6).1
  rw [List.getElem?_eq_getElem (by omega)] at a0 a1 a2
  rw [g1, g2, hc0] at a0
  rw [g4, g5, hc1] at a1
  rw [g7, g8, hc0] at a2
  obtain ⟨z, e0, _, hz⟩ := DataW.trod_int hi a0
  obtain ⟨s, e1, _, hsz⟩ := DataW.trod_string hs a1
  obtain ⟨y, e2, _, hy⟩ := DataW.trod_int hi a2
  have hll : cs.length = 3 := by omega
  refine ⟨hll, ⟨z, s, y⟩, ?_, i64r_of hz, by unfold maxLen at hsz; simp only; omega, i64r_of hy⟩
  match cs, hll with
  | [p, q, r], _ => simp at e0 e1 e2; simp [EN.v, e0, e1, e2]
theorem list_en {css : List (List Value)} (h : ∀ c ∈ css, c.length = 3 ∧ enG c) : ∃ l : List EN, l.length = css.length ∧ css.flatten = l.flatMap EN.v ∧ ∀ x ∈ l, x.ok := by
  induction css with
  | nil => exact ⟨[], rfl, rfl, by simp⟩
  | cons c css ih =>
    obtain ⟨l, h1, h2, h3⟩ := ih (fun c hc => h c (by simp [hc]))
    obtain ⟨_, x, h4, h5⟩ := h c (by simp)
    refine ⟨x :: l, by simp [h1], by rw [List.flatten_cons, List.flatMap_cons, h2, h4], fun y hy => ?_⟩
    rcases List.mem_cons.1 hy with rfl | hy
    · exact h5
    · exact h3 y hy
theorem open_en_slice {w : World} {base : Nat} {spare : Nat → Bool} {held : Bool} {r : Reach} {b0 : Nat} {t e ti tt : TypeId} {fs : Array Field} {v : Value} {d : DataW H} {p : List MemPlace} (ht : P.underlying t = some (.slice e)) (hu : P.underlying e = some (.struct fs))
    (h0 : (fs[0]?).map (fun f => (f.type, f.offset)) = some (ti, 0)) (h1 : (fs[1]?).map (fun f => (f.type, f.offset)) = some (tt, 1)) (h2 : (fs[2]?).map (fun f => (f.type, f.offset)) = some (ti, 2)) (hc : P.cellsOf e = 3) (hc0 : P.cellsOf ti = 1) (hc1 : P.cellsOf tt = 1)
    (hi : P.underlying ti = some (.int .i64)) (hs : P.underlying tt = some .string) (hv : Value.okWide P w r b0 t v) (h : DataW.Trod enc P w base spare held t v d p) :
    ∃ A n c, ∃ l : List EN, v = .slice A n c ∧ l.length = n ∧ n ≤ maxLen ∧ Row w A (l.flatMap EN.v) ∧ ∀ x ∈ l, x.ok := by
  obtain ⟨A, n, c, rfl⟩ := okWide_slice ht hv
  obtain ⟨fuel, hf'⟩ := h
  obtain ⟨A', n', c', css, k1, k2, k3, _, k4, k5⟩ := elem_slice (G := enG) (m := 3) ht (fun fuel cs x h => cells_en hu h0 h1 h2 hc hc0 hc1 hi hs fuel cs x h) hc hf'
  simp only [Value.cells, List.cons.injEq, Value.slice.injEq, and_true] at k1
  obtain ⟨rfl, rfl, rfl⟩ := k1
  obtain ⟨l, q1, q2, q3⟩ := list_en k5
  exact ⟨A, n, c, l, rfl, q1.trans k2, k3, q2 ▸ k4, q3⟩
end
end Go.Proofs.Ytkifapcegiajiaa
