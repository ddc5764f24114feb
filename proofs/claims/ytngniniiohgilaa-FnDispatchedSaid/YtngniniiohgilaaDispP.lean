/- Plain law: the cheapest choice of guards, by lists that begin with some and by what is left. No condition. -/
import Derived.Test.YtngniniiohgilaaBestP
namespace Go.Proofs.Ytngniniiohgilaa
open Go.RowKit
set_option linter.unusedVariables false

theorem accTo_map {α β : Type} {f : Nat → Option (α × Int)} {f' : Nat → Option (β × Int)} (φ : α × Int → β × Int) (hφ : ∀ x y : α × Int, (φ x).2 < (φ y).2 ↔ x.2 < y.2) : ∀ {k : Nat}, (∀ i, i < k → f' i = (f i).map φ) → accTo f' k = (accTo f k).map φ
  | 0, _ => rfl
  | k + 1, h => by
    have ih := accTo_map φ hφ (k := k) (fun i hi => h i (by omega))
    have hk := h k (by omega)
    rw [accTo, accTo, hk, ih]
    cases f k with
    | none => rfl
    | some x =>
      cases accTo f k with
      | none => rfl
      | some y =>
        show (if (φ x).2 < (φ y).2 then some (φ x) else some (φ y)) = Option.map φ (if x.2 < y.2 then some x else some y)
        by_cases hlt : x.2 < y.2
        · rw [if_pos hlt, if_pos ((hφ x y).2 hlt)]; rfl
        · rw [if_neg hlt, if_neg (fun e => hlt ((hφ x y).1 e))]; rfl
/-- The way of the guards of a list to the first halls. -/
def dsum (D : Nat → Nat → Int) (b : List Nat) : Nat → Int
  | 0 => 0
  | k + 1 => dsum D b k + D (natAt b k) k
theorem natAt_app {b c : List Nat} {k : Nat} (h : k < b.length) : natAt (b ++ c) k = natAt b k := by
  rw [natAt_eq _ _ (by simp; omega), natAt_eq _ _ h, List.getElem_append_left h]
theorem dsum_app {D : Nat → Nat → Int} {b c : List Nat} : ∀ {k : Nat}, k ≤ b.length → dsum D (b ++ c) k = dsum D b k
  | 0, _ => rfl
  | k + 1, h => by
    show dsum D (b ++ c) k + D (natAt (b ++ c) k) k = dsum D b k + D (natAt b k) k
    rw [dsum_app (k := k) (by omega), natAt_app (by omega)]
theorem dsum_snoc (D : Nat → Nat → Int) (b : List Nat) (g : Nat) : dsum D (b ++ [g]) (b ++ [g]).length = dsum D b b.length + D g b.length := by
  rw [List.length_append]
  show dsum D (b ++ [g]) b.length + D (natAt (b ++ [g]) b.length) b.length = _
  rw [dsum_app (Nat.le_refl _)]
  congr 2
  rw [natAt_eq _ _ (by simp), List.getElem_append_right (Nat.le_refl _)]; simp
theorem dsum_bound {D : Nat → Nat → Int} {b : List Nat} (h : ∀ x i, 0 ≤ D x i ∧ D x i ≤ 7) : ∀ k : Nat, 0 ≤ dsum D b k ∧ dsum D b k ≤ k * 7
  | 0 => by simp [dsum]
  | k + 1 => by
    have h1 := dsum_bound (b := b) h k
    have h2 := h (natAt b k) k
    show 0 ≤ dsum D b k + D (natAt b k) k ∧ dsum D b k + D (natAt b k) k ≤ _
    omega
/-- Lists that begin with b. -/
def disp (D : Nat → Nat → Int) (G : Nat) : Nat → List Nat → List Nat × Int
  | 0, b => (b, dsum D b b.length)
  | r + 1, b => (accTo (fun g => if b.contains g = true then none else some (disp D G r (b ++ [g]))) G).getD ([], 0)
def dispF (D : Nat → Nat → Int) (G r : Nat) (b : List Nat) (g : Nat) : Option (List Nat × Int) := if b.contains g = true then none else some (disp D G r (b ++ [g]))
theorem disp_succ (D : Nat → Nat → Int) (G r : Nat) (b : List Nat) : disp D G (r + 1) b = (accTo (dispF D G r b) G).getD ([], 0) := rfl
/-- What is left, by the set of those that are used: r halls from hall n on. -/
def left (D : Nat → Nat → Int) (G : Nat) : Nat → Nat → Nat → Option (List Nat × Int)
  | 0, _, _ => some ([], 0)
  | r + 1, n, S => accTo (fun g => if S.testBit g = true then none else (left D G r (n + 1) (S ||| 2 ^ g)).map fun x => (g :: x.1, x.2 + D g n)) G
def leftF (D : Nat → Nat → Int) (G r n S : Nat) (g : Nat) : Option (List Nat × Int) := if S.testBit g = true then none else (left D G r (n + 1) (S ||| 2 ^ g)).map fun x => (g :: x.1, x.2 + D g n)
theorem left_succ (D : Nat → Nat → Int) (G r n S : Nat) : left D G (r + 1) n S = accTo (leftF D G r n S) G := rfl
theorem disp_left {D : Nat → Nat → Int} {G : Nat} : ∀ (r : Nat) (b : List Nat), Beg G b → r + b.length ≤ G → ∃ x, left D G r b.length (setN b) = some x ∧ disp D G r b = (b ++ x.1, dsum D b b.length + x.2)
  | 0, b, _, _ => ⟨([], 0), rfl, by show (b, _) = _; simp⟩
  | r + 1, b, hb, hl => by
    rw [disp_succ, left_succ]
    have hm : accTo (dispF D G r b) G = (accTo (leftF D G r b.length (setN b)) G).map fun x => (b ++ x.1, dsum D b b.length + x.2) := by
      refine accTo_map _ (fun x y => ?_) fun g hg => ?_
      · show dsum D b b.length + x.2 < dsum D b b.length + y.2 ↔ _
        omega
      · unfold dispF leftF
        rw [setN_test]
        cases hc : b.contains g
        · obtain ⟨x, hx, hd⟩ := disp_left (D := D) r (b ++ [g]) (hb.snoc hg hc) (by simp; omega)
          rw [setN_snoc] at hx
          rw [show (b ++ [g]).length = b.length + 1 by simp] at hx
          rw [hx, hd, dsum_snoc]
          show some (_, _) = some (_, _)
          congr 2
          · simp
          · show _ = dsum D b b.length + (x.2 + D g b.length)
            omega
        · rfl
    rw [hm]
    obtain ⟨g0, hg0, hc0⟩ := hb.free (by omega)
    rcases accTo_spec (leftF D G r b.length (setN b)) G with ⟨_, h2⟩ | ⟨j, x, hj, hx, ha, -, -⟩
    · exfalso
      have := h2 g0 hg0
      unfold leftF at this
      rw [setN_test, hc0] at this
      obtain ⟨x, hx, _⟩ := disp_left (D := D) r (b ++ [g0]) (hb.snoc hg0 hc0) (by simp; omega)
      rw [setN_snoc] at hx
      rw [show (b ++ [g0]).length = b.length + 1 by simp] at hx
      rw [hx] at this
      simp at this
    · exact ⟨x, ha, by rw [ha]; rfl⟩
theorem left_some {D : Nat → Nat → Int} {G : Nat} (hD : ∀ x i, 0 ≤ D x i ∧ D x i ≤ 7) : ∀ (r n S : Nat) (x : List Nat × Int), left D G r n S = some x → 0 ≤ x.2 ∧ x.2 ≤ r * 7 ∧ x.1.length = r ∧ ∀ g ∈ x.1, g < G
  | 0, n, S, x, h => by cases h; simp
  | r + 1, n, S, x, h => by
    rw [left_succ] at h
    rcases accTo_spec (leftF D G r n S) G with ⟨h1, _⟩ | ⟨j, y, hj, hy, ha, -, -⟩
    · rw [h1] at h; cases h
    · rw [ha] at h
      cases h
      unfold leftF at hy
      split at hy
      · cases hy
      · cases hq : left D G r (n + 1) (S ||| 2 ^ j) with
        | none => rw [hq] at hy; cases hy
        | some z =>
          rw [hq] at hy
          cases hy
          have h1 := left_some hD r (n + 1) (S ||| 2 ^ j) z hq
          have h2 := hD j n
          show 0 ≤ z.2 + D j n ∧ z.2 + D j n ≤ _ ∧ (j :: z.1).length = _ ∧ ∀ g ∈ j :: z.1, _
          refine ⟨by omega, by omega, by simp [h1.2.2.1], fun g hg => ?_⟩
          rcases List.mem_cons.1 hg with rfl | h3
          · exact hj
          · exact h1.2.2.2 g h3
theorem disp_len {D : Nat → Nat → Int} {G : Nat} (hD : ∀ x i, 0 ≤ D x i ∧ D x i ≤ 7) {r : Nat} {b : List Nat} (hb : Beg G b) (hl : r + b.length ≤ G) : (disp D G r b).1.length = r + b.length ∧ 0 ≤ (disp D G r b).2 ∧ (disp D G r b).2 ≤ (r + b.length : Nat) * 7 ∧ ∃ t, (disp D G r b).1 = b ++ t := by
  obtain ⟨x, hx, hd⟩ := disp_left (D := D) r b hb hl
  have h1 := left_some hD r _ _ x hx
  have h2 := dsum_bound (b := b) hD b.length
  rw [hd]
  show (b ++ x.1).length = _ ∧ 0 ≤ dsum D b b.length + x.2 ∧ dsum D b b.length + x.2 ≤ _ ∧ _
  refine ⟨by simp [h1.2.2.1]; omega, by omega, by omega, x.1, rfl⟩
end Go.Proofs.Ytngniniiohgilaa
