/- Plain law: how many guards a search needs. No condition but at most seven halls. -/
import Derived.Test.YtngniniiohgilaaBestP
import Derived.Test.YtngniniiohgilaaDistance
import Derived.Test.YtngniniiohgilaaDoorsFrom
namespace Go.Proofs.Ytngniniiohgilaa
open Go.RowKit
set_option linter.unusedVariables false

/-- Trying all orders finds nothing worse than any order that begins so. -/
theorem bst_le (l : List T2) (h : Nat) : ∀ (r : Nat) (b t : List Nat), Beg h (b ++ t) → t.length = r → r + b.length = h → (bst l h r b).2 ≤ forTo l h (ci (b ++ t)) h
  | 0, b, t, hb, ht, hl => by
    obtain rfl : t = [] := List.eq_nil_of_length_eq_zero ht
    rw [List.append_nil]
    show forTo l h (ci b) b.length ≤ _
    rw [show b.length = h by omega]
    exact Int.le_refl _
  | r + 1, b, t, hb, ht, hl => by
    match t, ht with
    | x :: t, ht =>
      have hbx : Beg h b := ⟨(List.nodup_append.1 hb.1).1, fun y hy => hb.2 y (List.mem_append.2 (.inl hy))⟩
      have hx : x < h := hb.2 x (by simp)
      have hc : b.contains x = false := by
        rcases hc : b.contains x with _ | _
        · rfl
        · exact absurd rfl ((List.nodup_append.1 hb.1).2.2 x (List.contains_iff_mem.1 hc) x (by simp))
      have ih := bst_le l h r (b ++ [x]) t (by simpa using hb) (by simpa using ht) (by simp; omega)
      rw [List.append_assoc, List.singleton_append] at ih
      rw [bst_succ]
      rcases accTo_spec (bstF l h r b) h with ⟨_, h2⟩ | ⟨j, y, hj, hy, ha, h1, _⟩
      · exfalso
        have := h2 x hx
        unfold bstF at this
        rw [hc] at this
        simp at this
      · rw [ha]
        have := h1 x _ hx (show bstF l h r b x = some (bst l h r (b ++ [x])) by unfold bstF; rw [hc]; simp)
        show y.2 ≤ _
        omega
/-- What every step of an order asks is asked of the order. -/
theorem forTo_ge (l : List T2) (h : Nat) (o : List Int) : ∀ {k i : Nat}, i < k → fTo l h o i ≤ forTo l h o k
  | k + 1, i, hi => by
    show _ ≤ max (forTo l h o k) (fTo l h o k)
    rcases Nat.lt_or_ge i k with h1 | h1
    · have := forTo_ge l h o h1; omega
    · obtain rfl : i = k := by omega
      omega
theorem forTo_le {l : List T2} {h : Nat} {o : List Int} {m : Int} : ∀ {k : Nat}, 0 ≤ m → (∀ i, i < k → fTo l h o i ≤ m) → forTo l h o k ≤ m
  | 0, hm, _ => hm
  | k + 1, hm, h1 => by
    show max (forTo l h o k) (fTo l h o k) ≤ m
    have := forTo_le (k := k) hm (fun i hi => h1 i (by omega))
    have := h1 k (by omega)
    omega
/-- The number of doors of a hall. -/
def deg (l : List T2) (h a : Nat) : Nat := ((List.range h).filter fun b : Nat => hasD l a b).length
theorem deg_links (l : List T2) (h a : Nat) : (links l a h).length = deg l h a := by unfold links deg idxs; simp
theorem gaL_count (u : Nat → Bool) (l : List T2) (h : Nat) : (gaL u l h).length = ((List.range h).filter (gaP u l h)).length := by unfold gaL idxs; simp
theorem count_le {n : Nat} {p : Nat → Bool} {L : List Nat} (h : ∀ a, a < n → p a = true → a ∈ L) : ((List.range n).filter p).length ≤ L.length := by
  refine List.Nodup.length_le_of_subset (List.Pairwise.filter _ List.nodup_range) fun a ha => ?_
  rw [List.mem_filter, List.mem_range] at ha
  exact h a ha.1 ha.2
theorem count_ge {n : Nat} {p : Nat → Bool} {L : List Nat} (hd : L.Nodup) (h : ∀ a ∈ L, a < n ∧ p a = true) : L.length ≤ ((List.range n).filter p).length := by
  refine List.Nodup.length_le_of_subset hd fun a ha => ?_
  rw [List.mem_filter, List.mem_range]
  exact h a ha
/-- A guard stands in a hall that has been searched. -/
theorem fTo_le {l : List T2} {h : Nat} {b : List Nat} (i : Nat) (hi : i ≤ b.length) : fTo l h (ci b) i ≤ (i : Int) + 1 := by
  unfold fTo
  rw [gaL_count]
  have := count_le (n := h) (p := gaP (memN ((ci b).take i)) l h) (L := b.take i) (fun a _ hp => by
    unfold gaP memN at hp
    rw [Bool.and_eq_true, memI_iff] at hp
    have h1 := hp.1
    unfold ci at h1
    rw [← List.map_take, List.mem_map] at h1
    obtain ⟨x, hx, e⟩ := h1
    have : x = a := by exact_mod_cast e
    exact this ▸ hx)
  rw [List.length_take] at this
  omega
/-- All orders need more guards than the hall with the fewest doors has doors. -/
theorem need_deg {l : List T2} {h : Nat} {b : List Nat} (hf : doorsOk h l = true) (hb : Beg h b) (hl : b.length = h) (h1 : 1 ≤ h) : ∃ v, v < h ∧ (deg l h v : Int) + 1 ≤ forTo l h (ci b) h := by
  -- the least t such that some hall of the first t has all its neighbours among them
  have hex : ∃ t, t ≤ h ∧ ∃ v ∈ b.take t, openTo (memN ((ci b).take t)) l h v = false := by
    refine ⟨h, Nat.le_refl _, ?_⟩
    match b, hl with
    | [], hl => simp at hl; omega
    | x :: b', hl =>
      refine ⟨x, by rw [List.take_of_length_le (by omega)]; simp, ?_⟩
      unfold openTo
      rw [List.any_eq_false]
      intro y hy
      rw [List.mem_range] at hy
      have hm := hb.full hl y hy
      have : memN ((ci (x :: b')).take h) y = true := by
        unfold memN
        rw [List.take_of_length_le (by rw [ci_len]; omega), ci_mem]
        exact List.contains_iff_mem.2 hm
      rw [this]; simp
  obtain ⟨t, ⟨ht, v, hv, hop⟩, hmin⟩ := exists_least hex
  have ht0 : 0 < t := by
    rcases Nat.eq_zero_or_pos t with h0 | h0
    · subst h0; simp at hv
    · exact h0
  obtain ⟨s, rfl⟩ : ∃ s, t = s + 1 := ⟨t - 1, by omega⟩
  have hvb : v ∈ b := List.mem_of_mem_take hv
  refine ⟨v, hb.2 v hvb, ?_⟩
  have hge := forTo_ge l h (ci b) (k := h) (i := s) (by omega)
  -- all of the first s have an open door
  have hs : (s : Int) ≤ (gaL (memN ((ci b).take s)) l h).length := by
    rw [gaL_count]
    have := count_ge (n := h) (p := gaP (memN ((ci b).take s)) l h) (L := b.take s) (hb.1.sublist (List.take_sublist _ _)) (fun a ha => by
      refine ⟨hb.2 a (List.mem_of_mem_take ha), ?_⟩
      unfold gaP
      rw [Bool.and_eq_true]
      constructor
      · unfold memN
        rw [memI_iff]
        unfold ci
        rw [← List.map_take]
        exact List.mem_map.2 ⟨a, ha, rfl⟩
      · rcases hc : openTo (memN ((ci b).take s)) l h a with _ | _
        · have := hmin s ⟨by omega, a, ha, hc⟩; omega
        · rfl)
    rw [List.length_take] at this
    omega
  -- the neighbours of v are among the first s + 1, and v itself is none of them
  have hd : deg l h v ≤ s := by
    unfold deg
    have := count_le (n := h) (p := fun y => hasD l v y) (L := (b.take (s + 1)).filter fun y => decide (y ≠ v)) (fun y hy hp => by
      rw [List.mem_filter, decide_eq_true_eq]
      constructor
      · unfold openTo at hop
        rw [List.any_eq_false] at hop
        have h2 := hop y (List.mem_range.2 hy)
        rw [hp, Bool.true_and, Bool.not_eq_true', Bool.not_eq_false] at h2
        unfold memN at h2
        rw [memI_iff] at h2
        unfold ci at h2
        rw [← List.map_take, List.mem_map] at h2
        obtain ⟨x, hx, e⟩ := h2
        have : x = y := by exact_mod_cast e
        exact this ▸ hx
      · rintro rfl
        have h3 := links_self hf (k := y) (x := y)
        simp only [decide_not, decide_true, Bool.not_true, Bool.false_and] at h3
        rw [hp] at h3
        cases h3)
    have h4 : ((b.take (s + 1)).filter fun y => decide (y ≠ v)).length + 1 ≤ (b.take (s + 1)).length := by
      have h5 := List.length_filter_lt_length_iff_exists (p := fun y => decide (y ≠ v)) (l := b.take (s + 1))
      have h6 := h5.2 ⟨v, hv, by simp⟩
      omega
    rw [List.length_take] at h4
    omega
  have : fTo l h (ci b) s = (gaL (memN ((ci b).take s)) l h).length + 1 := rfl
  omega
/-- In a valid house of two halls or more every hall has a door. -/
theorem deg_pos {l : List T2} {h a : Nat} (g : houseOk h l = true) (ha : a < h) (h2 : 2 ≤ h) : 1 ≤ deg l h a := by
  obtain ⟨b, hb, hne⟩ : ∃ b, b < h ∧ b ≠ a := by
    rcases Nat.eq_zero_or_pos a with h0 | h0
    · exact ⟨1, by omega, by omega⟩
    · exact ⟨0, by omega, by omega⟩
  have hr := reach_all g ha hb
  have hpos : 0 < dist h (adjD l) a b := by
    rcases Int.lt_or_le 0 (dist h (adjD l) a b) with h1 | h1
    · exact h1
    · exact absurd (dist_zero (n := h) (adj := adjD l) (a := a) ha (v := b) (by omega)) hne
  obtain ⟨k, hk, hadj, _⟩ := near_step (adj := adjD l) (adjD_symm l) ha hb hpos
  unfold deg
  have : k ∈ (List.range h).filter fun b : Nat => hasD l a b := by
    rw [List.mem_filter, List.mem_range]
    exact ⟨hk, by rw [hasD_symm]; exact hadj⟩
  exact List.length_pos_of_mem this
end Go.Proofs.Ytngniniiohgilaa
