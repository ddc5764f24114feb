/- Kuhn's search counts a largest set of pairwise unrelated vertices (Dilworth). Conditions: the relation is transitive and irreflexive. -/
import Derived.Test.YtnjmhdlcmbpfpaaMatch
namespace Go.Proofs.Ytnjmhdlcmbpfpaa
namespace Match

theorem nodup_le : ∀ {l l' : List Nat}, l.Nodup → (∀ x ∈ l, x ∈ l') → l.length ≤ l'.length
  | [], _, _, _ => Nat.zero_le _
  | x :: l, l', hn, hs => by
    have hx : x ∈ l' := hs x (by simp)
    obtain ⟨h1, h2⟩ := List.nodup_cons.1 hn
    have := nodup_le (l := l) (l' := l'.erase x) h2 (fun y hy => (List.mem_erase_of_ne (by rintro rfl; exact h1 hy)).2 (hs y (by simp [hy])))
    rw [List.length_erase_of_mem hx] at this
    have := List.length_pos_of_mem hx
    simp only [List.length_cons]
    omega
variable {c : Nat → Nat → Bool} {n : Nat}
theorem count_two {b : List Int} {x : Int} {i j : Nat} (hij : i < j) (hj : j < b.length) (h1 : b[i]'(by omega) = x) (h2 : b[j] = x) : 2 ≤ b.count x := by
  rw [← List.take_append_drop j b, List.count_append]
  have m1 : x ∈ b.take j := by
    rw [← h1]
    have : (b.take j)[i]'(by rw [List.length_take]; omega) = b[i]'(by omega) := by simp
    rw [← this]
    exact List.getElem_mem _
  have m2 : x ∈ b.drop j := by
    rw [← h2]
    have : (b.drop j)[0]'(by rw [List.length_drop]; omega) = b[j] := by simp
    rw [← this]
    exact List.getElem_mem _
  have := List.count_pos_iff.2 m1
  have := List.count_pos_iff.2 m2
  omega
def got (b : List Int) (k : Nat) : Nat := (b.getD k 0).toNat
def matched (n : Nat) (b : List Int) : List Nat := (List.range n).filter fun k => decide (0 ≤ b.getD k 0)
theorem got_inj {P D : List Nat} {b : List Int} (hI : Inv c n P D b) {k k' : Nat} (hk : k < n) (hk' : k' < n) (h : 0 ≤ b.getD k 0) (h' : 0 ≤ b.getD k' 0) (e : got b k = got b k') : k = k' := by
  have hc := hI.cnt (got b k)
  have hle : b.count ((got b k : Nat) : Int) ≤ 1 := by rw [hc]; split <;> omega
  have e1 : b[k]'(by rw [hI.len]; exact hk) = ((got b k : Nat) : Int) := by
    have : b.getD k 0 = b[k]'(by rw [hI.len]; exact hk) := by simp [List.getD, hI.len, hk]
    unfold got; omega
  have e2 : b[k']'(by rw [hI.len]; exact hk') = ((got b k : Nat) : Int) := by
    have : b.getD k' 0 = b[k']'(by rw [hI.len]; exact hk') := by simp [List.getD, hI.len, hk']
    unfold got at e ⊢; omega
  rcases Nat.lt_trichotomy k k' with h3 | h3 | h3
  · have := count_two h3 (by rw [hI.len]; exact hk') e1 e2; omega
  · exact h3
  · have := count_two h3 (by rw [hI.len]; exact hk) e2 e1; omega
theorem map_nodup {l : List Nat} {g : Nat → Nat} (h : l.Nodup) (hg : ∀ x ∈ l, ∀ y ∈ l, g x = g y → x = y) : (l.map g).Nodup := by
  unfold List.Nodup
  rw [List.pairwise_map]
  refine List.Pairwise.imp_of_mem ?_ h
  intro a b ha hb hab e
  exact hab (hg a ha b hb e)
theorem got_cnt {P D : List Nat} {b : List Int} (hI : Inv c n P D b) {k : Nat} (hk : k < n) (h : 0 ≤ b.getD k 0) : got b k ∈ P ∧ got b k ∉ D := by
  have hc := hI.cnt (got b k)
  have e1 : b[k]'(by rw [hI.len]; exact hk) = ((got b k : Nat) : Int) := by
    have : b.getD k 0 = b[k]'(by rw [hI.len]; exact hk) := by simp [List.getD, hI.len, hk]
    unfold got; omega
  have : 0 < b.count ((got b k : Nat) : Int) := List.count_pos_iff.2 (by rw [← e1]; exact List.getElem_mem _)
  split at hc
  · assumption
  · omega
/-- A set of pairwise unrelated vertices as large as the number that failed. -/
theorem dil_low {P D : List Nat} {b : List Int} (hI : Inv c n P D b) (hP : ∀ x, x ∈ P ↔ x < n) : ∃ p : Nat → Bool, (∀ u v, u < n → v < n → p u = true → p v = true → c u v = false) ∧ D.length ≤ ((List.range n).filter p).length := by
  obtain ⟨T, hT, hD⟩ := hI.shut
  let T' := (List.range n).filter T
  let R := D ++ T'.map (got b)
  have hRnd : R.Nodup := by
    rw [List.nodup_append]
    refine ⟨hI.dup, map_nodup (List.nodup_range.filter _) ?_, ?_⟩
    · intro x hx y hy e
      simp only [T', List.mem_filter, List.mem_range] at hx hy
      exact got_inj hI hx.1 hy.1 (hT.paired x hx.1 hx.2) (hT.paired y hy.1 hy.2) e
    · rintro x hx y hy rfl
      obtain ⟨k, hk, rfl⟩ := List.mem_map.1 hy
      simp only [T', List.mem_filter, List.mem_range] at hk
      exact (got_cnt hI hk.1 (hT.paired k hk.1 hk.2)).2 hx
  have hRsuc : ∀ u ∈ R, ∀ v, v < n → c u v = true → T v = true := by
    intro u hu v hv hc
    rcases List.mem_append.1 hu with hu | hu
    · exact hD u hu v hv hc
    · obtain ⟨k, hk, rfl⟩ := List.mem_map.1 hu
      simp only [T', List.mem_filter, List.mem_range] at hk
      exact hT.next k hk.1 hk.2 v hv hc
  refine ⟨fun v => R.contains v && !T v, ?_, ?_⟩
  · intro u v hu hv pu pv
    simp only [Bool.and_eq_true, List.contains_iff_mem, Bool.not_eq_true'] at pu pv
    cases h : c u v
    · rfl
    · have := hRsuc u pu.1 v hv h
      rw [pv.2] at this; cases this
  · have h1 : R.length ≤ ((List.range n).filter (fun v => R.contains v && !T v) ++ T').length := by
      refine nodup_le hRnd fun x hx => ?_
      have hxn : x < n := by
        rcases List.mem_append.1 hx with h | h
        · exact (hP x).1 (hI.sub x h)
        · obtain ⟨k, hk, rfl⟩ := List.mem_map.1 h
          simp only [T', List.mem_filter, List.mem_range] at hk
          exact (hP _).1 (got_cnt hI hk.1 (hT.paired k hk.1 hk.2)).1
      rw [List.mem_append]
      cases h : T x
      · left
        simp only [List.mem_filter, List.mem_range, Bool.and_eq_true, List.contains_iff_mem, Bool.not_eq_true']
        exact ⟨hxn, hx, h⟩
      · right
        simp only [T', List.mem_filter, List.mem_range]
        exact ⟨hxn, h⟩
    have h2 : R.length = D.length + T'.length := by simp [R]
    have h3 : ((List.range n).filter (fun v => R.contains v && !T v) ++ T').length = ((List.range n).filter (fun v => R.contains v && !T v)).length + T'.length := List.length_append
    omega
theorem filter_three (n : Nat) (p q : Nat → Bool) (h : ∀ v, v < n → p v = true → q v = false) :
    ((List.range n).filter p).length + ((List.range n).filter q).length + ((List.range n).filter (fun v => !p v && !q v)).length ≤ n := by
  have h1 : ((List.range n).filter p ++ ((List.range n).filter q ++ (List.range n).filter (fun v => !p v && !q v))).length ≤ (List.range n).length := by
    refine nodup_le ?_ ?_
    · rw [List.nodup_append]
      refine ⟨List.nodup_range.filter _, ?_, ?_⟩
      · rw [List.nodup_append]
        refine ⟨List.nodup_range.filter _, List.nodup_range.filter _, ?_⟩
        rintro x hx y hy rfl
        simp only [List.mem_filter, Bool.and_eq_true, Bool.not_eq_true'] at hx hy
        rw [hx.2] at hy
        exact absurd hy.2.2 (by simp)
      · rintro x hx y hy rfl
        simp only [List.mem_append, List.mem_filter, List.mem_range, Bool.and_eq_true, Bool.not_eq_true'] at hx hy
        rcases hy with hy | hy
        · rw [h x hx.1 hx.2] at hy; exact absurd hy.2 (by simp)
        · rw [hx.2] at hy; exact absurd hy.2.1 (by simp)
    · intro x hx
      simp only [List.mem_append, List.mem_filter] at hx
      rcases hx with hx | hx | hx <;> exact hx.1
  simp only [List.length_append, List.length_range] at h1
  omega
/-- No set of pairwise unrelated vertices is larger than the number that failed. -/
theorem dil_up {P D : List Nat} {b : List Int} (hI : Inv c n P D b) (hP : ∀ x, x ∈ P ↔ x < n) (htr : ∀ u v x, u < n → v < n → x < n → c u v = true → c v x = true → c u x = true) (p : Nat → Bool)
    (hp : ∀ u v, u < n → v < n → p u = true → p v = true → c u v = false) : ((List.range n).filter p).length ≤ D.length := by
  let up := fun v => (List.range n).any fun a => p a && c a v
  have hup : ∀ v, up v = true ↔ ∃ a, a < n ∧ p a = true ∧ c a v = true := by
    intro v; simp [up, List.any_eq_true]
  have hpu : ∀ v, v < n → p v = true → up v = false := by
    intro v hv hpv
    cases h : up v
    · rfl
    · obtain ⟨a, ha, pa, ca⟩ := (hup v).1 h
      rw [hp a v ha hv pa hpv] at ca; cases ca
  have h3 := filter_three n p up hpu
  let M := matched n b
  have hM : ∀ k, k ∈ M ↔ k < n ∧ 0 ≤ b.getD k 0 := by intro k; simp [M, matched]
  have hMnd : M.Nodup := List.nodup_range.filter _
  -- as many pairs as vertices that did not fail
  have h1 : (List.range n).length ≤ (M.map (got b) ++ D).length := by
    refine nodup_le List.nodup_range fun x hx => ?_
    have hxn := List.mem_range.1 hx
    rw [List.mem_append]
    by_cases hd : x ∈ D
    · exact .inr hd
    · left
      have hc := hI.cnt x
      rw [if_pos ⟨(hP x).2 hxn, hd⟩] at hc
      have hm : (x : Int) ∈ b := List.count_pos_iff.1 (by omega)
      obtain ⟨k, hk, e⟩ := List.getElem_of_mem hm
      have hkn : k < n := by rw [← hI.len]; exact hk
      have e2 : b.getD k 0 = (x : Int) := by rw [← e]; simp [List.getD, hk]
      exact List.mem_map.2 ⟨k, (hM k).2 ⟨hkn, by omega⟩, by unfold got; omega⟩
  -- every pair is covered
  have h2 : M.length ≤ ((List.range n).filter up).length + ((List.range n).filter (fun v => !p v && !up v)).length := by
    have a1 : (M.filter up).length ≤ ((List.range n).filter up).length := nodup_le (hMnd.filter _) fun x hx => by
      simp only [List.mem_filter, hM] at hx
      simp only [List.mem_filter, List.mem_range]
      exact ⟨hx.1.1, hx.2⟩
    have a2 : ((M.filter (fun k => !up k)).map (got b)).length ≤ ((List.range n).filter (fun v => !p v && !up v)).length := by
      refine nodup_le (map_nodup (hMnd.filter _) ?_) ?_
      · intro x hx y hy e
        simp only [List.mem_filter, hM] at hx hy
        exact got_inj hI hx.1.1 hy.1.1 hx.1.2 hy.1.2 e
      · intro x hx
        obtain ⟨k, hk, rfl⟩ := List.mem_map.1 hx
        simp only [List.mem_filter, hM, Bool.not_eq_true'] at hk
        have hg : got b k < n := (hP _).1 (got_cnt hI hk.1.1 hk.1.2).1
        have he := hI.edge k hk.1.1 hk.1.2
        simp only [List.mem_filter, List.mem_range, Bool.and_eq_true, Bool.not_eq_true']
        refine ⟨hg, ?_, ?_⟩
        · cases h : p (got b k)
          · rfl
          · have := (hup k).2 ⟨got b k, hg, h, he⟩
            rw [hk.2] at this; cases this
        · cases h : up (got b k)
          · rfl
          · obtain ⟨a, ha, pa, ca⟩ := (hup _).1 h
            have := (hup k).2 ⟨a, ha, pa, htr a (got b k) k ha hg hk.1.1 ca he⟩
            rw [hk.2] at this; cases this
    have a3 : M.length = (M.filter up).length + (M.filter (fun k => !up k)).length := by
      clear h1 a1 a2 hM hMnd
      induction M with
      | nil => rfl
      | cons x M ih => cases h : up x <;> simp [h, ih] <;> omega
    rw [List.length_map] at a2
    omega
  simp only [List.length_append, List.length_map, List.length_range] at h1
  omega
/-- The number of tracks is the size of a largest set of pairwise unrelated vertices. -/
theorem tracks_dil (htr : ∀ u v x, u < n → v < n → x < n → c u v = true → c v x = true → c u x = true) :
    (∃ p : Nat → Bool, (∀ u v, u < n → v < n → p u = true → p v = true → c u v = false) ∧ tracks c n ≤ ((List.range n).filter p).length) ∧
    ∀ p : Nat → Bool, (∀ u v, u < n → v < n → p u = true → p v = true → c u v = false) → (((List.range n).filter p).length : Int) ≤ tracks c n := by
  obtain ⟨D, b, hI, ht⟩ := tracks_inv (c := c) (n := n)
  have hP : ∀ x, x ∈ (List.range n).reverse ↔ x < n := by intro x; simp
  rw [ht]
  refine ⟨?_, fun p hp => ?_⟩
  · obtain ⟨p, h1, h2⟩ := dil_low hI hP
    exact ⟨p, h1, by omega⟩
  · have := dil_up hI hP htr p hp
    omega
end Match
end Go.Proofs.Ytnjmhdlcmbpfpaa
