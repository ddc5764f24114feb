/-
  Opening an argument: a slice of bytes. No condition.
-/
import Derived.Test.YtkifapcegiajiaaFrameE
namespace Go.Proofs.Ytkifapcegiajiaa
open Go.ChangeShapes Go.WideShapes Go.ChangeAt Go.RowKit Go.Deep

section
variable {H : Type} {enc : TypeId × Value → H} {P : Program}
theorem byte_lists : ∀ css : List (List Value), (∀ c ∈ css, c.length = 1 ∧ ∃ z, c = [.int .u8 z] ∧ 0 ≤ z ∧ z ≤ 255) → ∃ zs : List Int, zs.length = css.length ∧ css.flatten = zs.map (Value.int .u8) ∧ ∀ z ∈ zs, 0 ≤ z ∧ z ≤ 255
  | [], _ => ⟨[], rfl, rfl, by simp⟩
  | c :: css, h => by
    obtain ⟨_, z, hc, h0, h1⟩ := h c (by simp)
    obtain ⟨zs, h2, h3, h4⟩ := byte_lists css (fun c hc => h c (by simp [hc]))
    refine ⟨z :: zs, by simp [h2], by rw [List.flatten_cons, hc, h3]; rfl, fun y hy => ?_⟩
    rcases List.mem_cons.1 hy with rfl | hy
    · exact ⟨h0, h1⟩
    · exact h4 y hy
theorem open_bytes {w : World} {base : Nat} {spare : Nat → Bool} {held : Bool} {r : Reach} {b0 : Nat} {t e : TypeId} {v : Value} {d : DataW H} {p : List MemPlace} (ht : P.underlying t = some (.slice e)) (he : P.underlying e = some (.int .u8))
    (hm : P.cellsOf e = 1) (hv : Value.okWide P w r b0 t v) (h : DataW.Trod enc P w base spare held t v d p) :
    ∃ A n c, ∃ zs : List Int, v = .slice A n c ∧ zs.length = n ∧ n ≤ maxLen ∧ Row w A (zs.map (Value.int .u8)) ∧ ∀ z ∈ zs, 0 ≤ z ∧ z ≤ 255 := by
  obtain ⟨A, n, c, rfl⟩ := okWide_slice ht hv
  obtain ⟨fuel, hf'⟩ := h
  obtain ⟨A', n', c', css, h1, h2, h3, _, h4, h5⟩ := elem_slice (G := fun cs => ∃ z, cs = [.int .u8 z] ∧ 0 ≤ z ∧ z ≤ 255) (m := 1) ht (fun fuel cs x h => by
    obtain ⟨z, rfl, _, hz⟩ := DataW.trod_int he h
    exact ⟨rfl, z, rfl, bounds_u8 hz⟩) hm hf'
  simp only [Value.cells, List.cons.injEq, Value.slice.injEq] at h1
  obtain ⟨⟨rfl, rfl, rfl⟩, _⟩ := h1
  obtain ⟨zs, h6, h7, h8⟩ := byte_lists css h5
  exact ⟨A, n, c, zs, rfl, h6.trans h2, h3, h7 ▸ h4, h8⟩
end
end Go.Proofs.Ytkifapcegiajiaa
