/- Plain law: the best order of a search by trying all orders, and by sets of halls. No condition but at most seven halls. -/
import Derived.Test.YtngniniiohgilaaForI
import Derived.Test.YtngniniiohgilaaBits
namespace Go.Proofs.Ytngniniiohgilaa
open Go.RowKit
set_option linter.unusedVariables false

/-- The first of the least. -/
def accTo {α : Type} (f : Nat → Option (α × Int)) : Nat → Option (α × Int)
  | 0 => none
  | k + 1 => match f k with
    | none => accTo f k
    | some x => match accTo f k with
      | none => some x
      | some y => if x.2 < y.2 then some x else some y
theorem accTo_skip {α : Type} {f : Nat → Option (α × Int)} {k : Nat} (h : f k = none) : accTo f (k + 1) = accTo f k := by rw [accTo, h]
theorem accTo_first {α : Type} {f : Nat → Option (α × Int)} {k : Nat} {x : α × Int} (h : f k = some x) (g : accTo f k = none) : accTo f (k + 1) = some x := by rw [accTo, h, g]
theorem accTo_less {α : Type} {f : Nat → Option (α × Int)} {k : Nat} {x y : α × Int} (h : f k = some x) (g : accTo f k = some y) (e : x.2 < y.2) : accTo f (k + 1) = some x := by rw [accTo, h, g]; simp [e]
theorem accTo_more {α : Type} {f : Nat → Option (α × Int)} {k : Nat} {x y : α × Int} (h : f k = some x) (g : accTo f k = some y) (e : ¬ x.2 < y.2) : accTo f (k + 1) = some y := by rw [accTo, h, g]; simp [e]
theorem accTo_spec {α : Type} (f : Nat → Option (α × Int)) : ∀ k, (accTo f k = none ∧ ∀ i, i < k → f i = none) ∨ ∃ j x, j < k ∧ f j = some x ∧ accTo f k = some x ∧ (∀ i y, i < k → f i = some y → x.2 ≤ y.2) ∧ ∀ i y, i < j → f i = some y → x.2 < y.2
  | 0 => .inl ⟨rfl, by omega⟩
  | k + 1 => by
    cases hk : f k with
    | none =>
      rw [accTo_skip hk]
      rcases accTo_spec f k with ⟨h, h2⟩ | ⟨j, x, hj, hx, ha, h1, h2⟩
      · refine .inl ⟨h, fun i hi => ?_⟩
        rcases Nat.lt_or_ge i k with h' | h'
        · exact h2 i h'
        · obtain rfl : i = k := by omega
          exact hk
      · refine .inr ⟨j, x, by omega, hx, ha, fun i y hi hy => ?_, h2⟩
        rcases Nat.lt_or_ge i k with h' | h'
        · exact h1 i y h' hy
        · obtain rfl : i = k := by omega
          rw [hk] at hy; cases hy
    | some z =>
      rcases accTo_spec f k with ⟨h, h2⟩ | ⟨j, x, hj, hx, ha, h1, h2⟩
      · refine .inr ⟨k, z, by omega, hk, accTo_first hk h, fun i y hi hy => ?_, fun i y hi hy => ?_⟩
        · rcases Nat.lt_or_ge i k with h' | h'
          · rw [h2 i h'] at hy; cases hy
          · obtain rfl : i = k := by omega
            rw [hk] at hy; cases hy; exact Int.le_refl _
        · rw [h2 i hi] at hy; cases hy
      · by_cases hlt : z.2 < x.2
        · refine .inr ⟨k, z, by omega, hk, accTo_less hk ha hlt, fun i y hi hy => ?_, fun i y hi hy => ?_⟩
          · rcases Nat.lt_or_ge i k with h' | h'
            · have := h1 i y h' hy; omega
            · obtain rfl : i = k := by omega
              rw [hk] at hy; cases hy; exact Int.le_refl _
          · have := h1 i y hi hy; omega
        · refine .inr ⟨j, x, by omega, hx, accTo_more hk ha hlt, fun i y hi hy => ?_, h2⟩
          rcases Nat.lt_or_ge i k with h' | h'
          · exact h1 i y h' hy
          · obtain rfl : i = k := by omega
            rw [hk] at hy; cases hy; omega

/-! ### All orders -/
def ci (b : List Nat) : List Int := b.map fun (x : Nat) => (x : Int)
theorem ci_len (b : List Nat) : (ci b).length = b.length := by simp [ci]
theorem ci_app (b : List Nat) (k : Nat) : ci (b ++ [k]) = ci b ++ [(k : Int)] := by simp [ci]
theorem ci_at {b : List Nat} {j : Nat} (h : j < b.length) : atI (ci b) j = (b[j] : Nat) := by rw [atI_eq _ _ (by rw [ci_len]; exact h)]; simp [ci]
theorem ci_mem {b : List Nat} {k : Nat} : memI (ci b) k = b.contains k := by
  rw [Bool.eq_iff_iff, memI_iff, List.contains_iff_mem]
  unfold ci
  rw [List.mem_map]
  constructor
  · rintro ⟨a, ha, e⟩
    have : a = k := by exact_mod_cast e
    exact this ▸ ha
  · intro h; exact ⟨k, h, rfl⟩
def bst (l : List T2) (h : Nat) : Nat → List Nat → List Nat × Int
  | 0, b => (b, forTo l h (ci b) b.length)
  | r + 1, b => (accTo (fun k => if b.contains k = true then none else some (bst l h r (b ++ [k]))) h).getD ([], 0)
def bstF (l : List T2) (h r : Nat) (b : List Nat) (k : Nat) : Option (List Nat × Int) := if b.contains k = true then none else some (bst l h r (b ++ [k]))
theorem bst_succ (l : List T2) (h r : Nat) (b : List Nat) : bst l h (r + 1) b = (accTo (bstF l h r b) h).getD ([], 0) := rfl
/-- A beginning of an order. -/
def Beg (h : Nat) (b : List Nat) : Prop := b.Nodup ∧ ∀ x ∈ b, x < h
theorem Beg.snoc {h k : Nat} {b : List Nat} (hb : Beg h b) (hk : k < h) (hc : b.contains k = false) : Beg h (b ++ [k]) := by
  have hn : k ∉ b := by
    intro hm
    rw [List.contains_iff_mem.2 hm] at hc
    cases hc
  refine ⟨List.nodup_append.2 ⟨hb.1, by simp, fun a ha c hc' => ?_⟩, fun x hx => ?_⟩
  · rw [List.mem_singleton] at hc'
    subst hc'
    exact fun e => hn (e ▸ ha)
  · rcases List.mem_append.1 hx with h1 | h1
    · exact hb.2 x h1
    · rw [List.mem_singleton] at h1; subst h1; exact hk
theorem nodup_len {n : Nat} {l : List Nat} (hd : l.Nodup) (hlt : ∀ x ∈ l, x < n) : l.length ≤ n := by
  have := List.Nodup.length_le_of_subset hd (l₂ := List.range n) (fun x hx => List.mem_range.2 (hlt x hx))
  simpa using this
/-- Some hall is not yet in it. -/
theorem Beg.free {h : Nat} {b : List Nat} (hb : Beg h b) (hl : b.length < h) : ∃ k, k < h ∧ b.contains k = false := by
  rcases Classical.em (∃ k, k < h ∧ b.contains k = false) with h1 | h1
  · exact h1
  · exfalso
    have h2 : ∀ k, k < h → k ∈ b := fun k hk => by
      rcases hc : b.contains k with _ | _
      · exact absurd ⟨k, hk, hc⟩ h1
      · exact List.contains_iff_mem.1 hc
    have := List.Nodup.length_le_of_subset (l₁ := List.range h) (l₂ := b) List.nodup_range (fun x hx => h2 x (List.mem_range.1 hx))
    simp at this
    omega
theorem Beg.full {h : Nat} {b : List Nat} (hb : Beg h b) (hl : b.length = h) : ∀ k, k < h → k ∈ b := by
  intro k hk
  rcases hc : b.contains k with _ | _
  · exfalso
    have := (hb.snoc hk hc)
    have := nodup_len this.1 this.2
    simp at this
    omega
  · exact List.contains_iff_mem.1 hc
/-- What trying all orders finds: an order with this beginning, with as many guards as it needs. -/
theorem bst_ord (l : List T2) (h : Nat) : ∀ (r : Nat) (b : List Nat), Beg h b → r + b.length = h → Beg h (bst l h r b).1 ∧ (bst l h r b).1.length = h ∧ (bst l h r b).2 = forTo l h (ci (bst l h r b).1) h
  | 0, b, hb, hl => ⟨hb, by show b.length = h; omega, by show forTo l h (ci b) b.length = forTo l h (ci b) h; rw [show b.length = h by omega]⟩
  | r + 1, b, hb, hl => by
    rw [bst_succ]
    rcases accTo_spec (bstF l h r b) h with ⟨_, h2⟩ | ⟨j, x, hj, hx, ha, h1, h2⟩
    · exfalso
      obtain ⟨k, hk, hc⟩ := hb.free (by omega)
      have := h2 k hk
      unfold bstF at this
      rw [hc] at this
      simp at this
    · rw [ha]
      unfold bstF at hx
      split at hx
      · cases hx
      · rename_i hc
        cases hx
        exact bst_ord l h r _ (hb.snoc hj (by simpa using hc)) (by simp; omega)

/-! ### Sets -/
def setN (b : List Nat) : Nat := setTo (ci b) b.length
theorem take_app {α : Type} {a c : List α} {k : Nat} (h : k ≤ a.length) : (a ++ c).take k = a.take k := by rw [List.take_append_of_le_length h]
theorem atI_app {a c : List Int} {k : Nat} (h : k < a.length) : atI (a ++ c) k = atI a k := by
  rw [atI_eq _ _ (by simp; omega), atI_eq _ _ h, List.getElem_append_left h]
theorem setTo_app {a c : List Int} : ∀ {k : Nat}, k ≤ a.length → setTo (a ++ c) k = setTo a k
  | 0, _ => rfl
  | k + 1, h => by
    show setTo (a ++ c) k ||| _ = setTo a k ||| _
    rw [setTo_app (k := k) (by omega), atI_app (by omega)]
theorem setN_snoc (b : List Nat) (k : Nat) : setN (b ++ [k]) = setN b ||| 2 ^ k := by
  unfold setN
  rw [ci_app, List.length_append]
  show setTo (ci b ++ [(k : Int)]) b.length ||| 2 ^ (atI (ci b ++ [(k : Int)]) b.length).toNat = _
  rw [setTo_app (by rw [ci_len]; exact Nat.le_refl _)]
  congr 2
  rw [atI_eq _ _ (by simp [ci_len])]
  have : (ci b ++ [(k : Int)])[b.length]'(by simp [ci_len]) = (k : Int) := by
    rw [List.getElem_append_right (by rw [ci_len]; exact Nat.le_refl _)]; simp [ci_len]
  rw [this]; rfl
theorem setN_nil : setN [] = 0 := rfl
theorem setN_test {b : List Nat} (j : Nat) : (setN b).testBit j = b.contains j := by
  unfold setN
  rw [setTo_mem (by rw [ci_len]; exact Nat.le_refl _) (fun i hi => by rw [ci_at hi]; omega), List.take_of_length_le (by rw [ci_len]; exact Nat.le_refl _), ci_mem]
theorem setN_lt {h : Nat} {b : List Nat} (hb : Beg h b) : setN b < 2 ^ h := by
  rcases Nat.lt_or_ge (setN b) (2 ^ h) with h1 | h1
  · exact h1
  · obtain ⟨i, hi, ht⟩ := Nat.exists_ge_and_testBit_of_ge_two_pow h1
    rw [setN_test] at ht
    have := hb.2 i (List.contains_iff_mem.1 ht)
    omega
theorem setN_all {h : Nat} {b : List Nat} (hb : Beg h b) : setN b = 2 ^ h - 1 ↔ b.length = h := by
  constructor
  · intro e
    rcases Nat.lt_or_ge b.length h with h1 | h1
    · exfalso
      obtain ⟨k, hk, hc⟩ := hb.free h1
      have : (setN b).testBit k = true := by rw [e, Nat.testBit_two_pow_sub_one]; simpa using hk
      rw [setN_test, hc] at this
      cases this
    · have := nodup_len hb.1 hb.2; omega
  · intro e
    apply Nat.eq_of_testBit_eq
    intro i
    rw [setN_test, Nat.testBit_two_pow_sub_one]
    rcases Nat.lt_or_ge i h with h1 | h1
    · rw [List.contains_iff_mem.2 (hb.full e i h1)]; simp [h1]
    · have : b.contains i = false := by
        rcases hc : b.contains i with _ | _
        · rfl
        · have := hb.2 i (List.contains_iff_mem.1 hc); omega
      rw [this]; simp; omega
/-- How many halls of a set have an open door. -/
def bord (l : List T2) (h S : Nat) : Int := (gaL S.testBit l h).length
def stepV (l : List T2) (h : Nat) (v : Nat → Int) (S : Nat) : Nat → Int
  | 0 => 100
  | k + 1 => if S.testBit k = true then stepV l h v S k else min (stepV l h v S k) (max (bord l h S + 1) (v (S ||| 2 ^ k)))
/-- The numbers that the sets need. -/
def RecV (l : List T2) (h : Nat) (v : Nat → Int) : Prop := v (2 ^ h - 1) = 0 ∧ ∀ S, S < 2 ^ h - 1 → v S = stepV l h v S h
theorem stepV_le {l : List T2} {h : Nat} {v : Nat → Int} {S : Nat} : ∀ {k i : Nat}, i < k → S.testBit i = false → stepV l h v S k ≤ max (bord l h S + 1) (v (S ||| 2 ^ i))
  | k + 1, i, hi, hb => by
    rw [stepV]
    rcases Nat.lt_or_ge i k with h1 | h1
    · have := stepV_le (l := l) (h := h) (v := v) h1 hb
      split <;> omega
    · obtain rfl : i = k := by omega
      rw [hb]
      simp
      omega
theorem stepV_in {l : List T2} {h : Nat} {v : Nat → Int} {S : Nat} : ∀ (k : Nat), stepV l h v S k = 100 ∨ ∃ i, i < k ∧ S.testBit i = false ∧ stepV l h v S k = max (bord l h S + 1) (v (S ||| 2 ^ i))
  | 0 => .inl rfl
  | k + 1 => by
    rw [stepV]
    split
    · rcases stepV_in (l := l) (h := h) (v := v) (S := S) k with h1 | ⟨i, hi, h2⟩
      · exact .inl h1
      · exact .inr ⟨i, by omega, h2⟩
    · rename_i hb
      have hb : S.testBit k = false := by simpa using hb
      rcases Int.lt_or_le (stepV l h v S k) (max (bord l h S + 1) (v (S ||| 2 ^ k))) with h1 | h1
      · rw [Int.min_eq_left (by omega)]
        rcases stepV_in (l := l) (h := h) (v := v) (S := S) k with h1 | ⟨i, hi, h2⟩
        · exact .inl h1
        · exact .inr ⟨i, by omega, h2⟩
      · rw [Int.min_eq_right h1]
        exact .inr ⟨k, by omega, hb, rfl⟩
theorem bord_bound (l : List T2) (h S : Nat) : 0 ≤ bord l h S ∧ bord l h S ≤ h := by
  have := gaL_len S.testBit l h
  unfold bord; omega
theorem forTo_app {l : List T2} {h : Nat} {a c : List Int} : ∀ {k : Nat}, k ≤ a.length → forTo l h (a ++ c) k = forTo l h a k
  | 0, _ => rfl
  | k + 1, hk => by
    show max (forTo l h (a ++ c) k) (fTo l h (a ++ c) k) = max (forTo l h a k) (fTo l h a k)
    rw [forTo_app (k := k) (by omega)]
    unfold fTo
    rw [take_app (by omega)]
theorem fTo_bord {l : List T2} {h : Nat} {b : List Nat} (x : List Int) : fTo l h (ci b ++ x) b.length = bord l h (setN b) + 1 := by
  unfold fTo bord
  rw [take_app (by rw [ci_len]; exact Nat.le_refl _), List.take_of_length_le (by rw [ci_len]; exact Nat.le_refl _)]
  congr 2
  refine congrArg List.length (gaL_congr fun k _ => ?_)
  rw [setN_test, ← ci_mem]; rfl
theorem forTo_snoc {l : List T2} {h : Nat} {b : List Nat} (k : Nat) : forTo l h (ci (b ++ [k])) (b ++ [k]).length = max (forTo l h (ci b) b.length) (bord l h (setN b) + 1) := by
  rw [ci_app, List.length_append]
  show max (forTo l h (ci b ++ [(k : Int)]) b.length) (fTo l h (ci b ++ [(k : Int)]) b.length) = _
  rw [forTo_app (by rw [ci_len]; exact Nat.le_refl _), fTo_bord]
/-- Trying all orders and the sets agree. -/
theorem bst_set {l : List T2} {h : Nat} (h7 : h ≤ 7) {v : Nat → Int} (hv : RecV l h v) : ∀ (r : Nat) (b : List Nat), Beg h b → r + b.length = h → (bst l h r b).2 = max (forTo l h (ci b) b.length) (v (setN b)) ∧ 0 ≤ v (setN b) ∧ v (setN b) ≤ 8
  | 0, b, hb, hl => by
    rw [(setN_all hb).2 (by omega), hv.1]
    have := forTo_bound l h (ci b) b.length
    refine ⟨?_, by omega, by omega⟩
    show forTo l h (ci b) b.length = _
    omega
  | r + 1, b, hb, hl => by
    have hlt : setN b < 2 ^ h - 1 := by
      have h1 := setN_lt hb
      rcases Nat.lt_or_ge (setN b) (2 ^ h - 1) with h2 | h2
      · exact h2
      · have := (setN_all hb).1 (by omega); omega
    have hS := hv.2 _ hlt
    obtain ⟨k0, hk0, hc0⟩ := hb.free (by omega)
    have hfor := forTo_bound l h (ci b) b.length
    have hbo := bord_bound l h (setN b)
    have hnext : ∀ k, k < h → b.contains k = false → (bst l h r (b ++ [k])).2 = max (max (forTo l h (ci b) b.length) (bord l h (setN b) + 1)) (v (setN b ||| 2 ^ k)) ∧ 0 ≤ v (setN b ||| 2 ^ k) ∧ v (setN b ||| 2 ^ k) ≤ 8 := fun k hk hc => by
      have h1 := bst_set h7 hv r (b ++ [k]) (hb.snoc hk hc) (by simp; omega)
      rw [forTo_snoc, setN_snoc] at h1
      exact h1
    have hle : ∀ k, k < h → b.contains k = false → v (setN b) ≤ max (bord l h (setN b) + 1) (v (setN b ||| 2 ^ k)) := fun k hk hc => by
      rw [hS]; exact stepV_le hk (by rw [setN_test]; exact hc)
    have h3 := hle k0 hk0 hc0
    have h4 := hnext k0 hk0 hc0
    rcases stepV_in (l := l) (h := h) (v := v) (S := setN b) h with h1 | ⟨i, hi, hib, h1⟩
    · exfalso; rw [hS, h1] at h3; omega
    rw [setN_test] at hib
    have h5 := hnext i hi hib
    rw [bst_succ]
    rcases accTo_spec (bstF l h r b) h with ⟨_, h2⟩ | ⟨j, x, hj, hx, ha, hm1, hm2⟩
    · exfalso
      have := h2 k0 hk0
      unfold bstF at this
      rw [hc0] at this
      simp at this
    · rw [ha]
      have hjc : b.contains j = false ∧ x = bst l h r (b ++ [j]) := by
        unfold bstF at hx
        split at hx
        · cases hx
        · rename_i hc
          cases hx
          exact ⟨by simpa using hc, rfl⟩
      have h6 := hnext j hj hjc.1
      have h7' := hle j hj hjc.1
      have h8 := hm1 i _ hi (show bstF l h r b i = some (bst l h r (b ++ [i])) by unfold bstF; rw [hib]; simp)
      rw [hjc.2] at h8
      show (x.2 = _ ∧ _)
      rw [hjc.2, h6.1]
      rw [h6.1, h5.1] at h8
      rw [hS, h1] at h7' ⊢
      refine ⟨by omega, by omega, by omega⟩
/-- The next hall of the best order: the first that the sets allow. -/
theorem bst_next {l : List T2} {h : Nat} (h7 : h ≤ 7) {v : Nat → Int} (hv : RecV l h v) {r : Nat} {b : List Nat} (hb : Beg h b) (hl : r + 1 + b.length = h) (hall : bst l h (r + 1) b = bst l h h []) :
    ∃ j, j < h ∧ b.contains j = false ∧ max (bord l h (setN b) + 1) (v (setN b ||| 2 ^ j)) ≤ v 0 ∧ (∀ i, i < j → b.contains i = false → ¬ max (bord l h (setN b) + 1) (v (setN b ||| 2 ^ i)) ≤ v 0) ∧ bst l h r (b ++ [j]) = bst l h h [] := by
  have h0 := (bst_set h7 hv h [] ⟨List.nodup_nil, by simp⟩ (by simp)).1
  rw [setN_nil] at h0
  have hv0 := (bst_set h7 hv h [] ⟨List.nodup_nil, by simp⟩ (by simp)).2
  rw [setN_nil] at hv0
  have hz : forTo l h (ci []) ([] : List Nat).length = 0 := rfl
  rw [hz] at h0
  have hb1 := (bst_set h7 hv (r + 1) b hb hl).1
  rw [hall, h0] at hb1
  have hnext : ∀ k, k < h → b.contains k = false → (bst l h r (b ++ [k])).2 = max (max (forTo l h (ci b) b.length) (bord l h (setN b) + 1)) (v (setN b ||| 2 ^ k)) := fun k hk hc => by
    have h1 := bst_set h7 hv r (b ++ [k]) (hb.snoc hk hc) (by simp; omega)
    rw [forTo_snoc, setN_snoc] at h1
    exact h1.1
  have hbs := bst_succ l h r b
  rcases accTo_spec (bstF l h r b) h with ⟨_, h2⟩ | ⟨j, x, hj, hx, ha, hm1, hm2⟩
  · exfalso
    obtain ⟨k, hk, hc⟩ := hb.free (by omega)
    have := h2 k hk
    unfold bstF at this
    rw [hc] at this
    simp at this
  · have hjc : b.contains j = false ∧ x = bst l h r (b ++ [j]) := by
      unfold bstF at hx
      split at hx
      · cases hx
      · rename_i hc
        cases hx
        exact ⟨by simpa using hc, rfl⟩
    rw [ha] at hbs
    have hxe : bst l h (r + 1) b = x := hbs
    have hx2 : x.2 = v 0 := by rw [← hxe, hall, h0]; omega
    have hj2 := hnext j hj hjc.1
    rw [← hjc.2, hx2] at hj2
    refine ⟨j, hj, hjc.1, by omega, fun i hi hc hle => ?_, by rw [← hjc.2, ← hxe, hall]⟩
    have h3 := hm2 i _ hi (show bstF l h r b i = some (bst l h r (b ++ [i])) by unfold bstF; rw [hc]; simp)
    rw [hx2, hnext i (by omega) hc] at h3
    omega
end Go.Proofs.Ytngniniiohgilaa
