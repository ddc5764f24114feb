/- Plain law: numbers are there or missing, pictures shown again are noticed. No condition. -/
import Derived.Test.YtnjmhdlcmbpfpaaDrawFr
import Derived.Test.YtnjmhdlcmbpfpaaMiss
namespace Go.Proofs.Ytnjmhdlcmbpfpaa
open Go.RowKit
set_option linter.unusedVariables false

theorem Frs.at {l : List T3} (h : Frs l) {k : Nat} (hk : k < l.length) : (1 ≤ (at3 l k).a ∧ (at3 l k).a ≤ 31) ∧ (1 ≤ (at3 l k).b ∧ (at3 l k).b ≤ 127) ∧ (0 ≤ (at3 l k).c ∧ (at3 l k).c ≤ 3) := by
  rw [at3_eq _ _ hk]; exact h.2.2 _ (List.getElem_mem hk)
theorem Frs.lt {l : List T3} (h : Frs l) {i k : Nat} (hik : i < k) (hk : k < l.length) : (at3 l i).a < (at3 l k).a ∧ (at3 l i).b < (at3 l k).b := by
  rw [at3_eq _ _ hk, at3_eq _ _ (by omega)]; exact List.pairwise_iff_getElem.1 h.2.1 i k (by omega) hk hik
theorem Frs.le {l : List T3} (h : Frs l) {i k : Nat} (hik : i ≤ k) (hk : k < l.length) : (at3 l i).a ≤ (at3 l k).a ∧ (at3 l i).b ≤ (at3 l k).b := by
  rcases Nat.lt_or_ge i k with h' | h'
  · have := h.lt h' hk; omega
  · obtain rfl : i = k := by omega
    omega
theorem Frs.framesG {l : List T3} (h : Frs l) : frames l = true := by
  unfold frames
  rw [Bool.and_eq_true, allN_iff]
  refine ⟨fun k hk => ?_, by simpa using (show l.length ≤ 60 by have := h.1; omega)⟩
  have := h.at hk
  unfold fokAt fok
  simp only [Bool.and_eq_true, btw_iff]
  omega
theorem Frs.ord {l : List T3} (h : Frs l) : isOrd l = true := by
  unfold isOrd
  rw [allN_iff]
  intro k hk
  have := h.lt (i := k) (k := k + 1) (by omega) (by omega)
  unfold ordAt
  rw [decide_eq_true this.1, decide_eq_true this.2]; rfl
theorem Frs.numsG {l : List T3} (h : Frs l) : (nums l).Nodup := by
  unfold nums
  rw [List.Nodup, List.pairwise_map]
  exact h.2.1.imp fun h e => by omega
theorem gaps_count {l : List T3} {f : Int} {N : Nat} (hn : (nums l).Nodup) (hin : ∀ x, x ∈ nums l → f ≤ x ∧ x < f + N) : (gaps l f N).length + l.length = N := by
  have h1 : (((List.range N).filter fun (j : Nat) => memI (nums l) (f + (j : Int))).map fun (j : Nat) => f + (j : Int)).length = (nums l).length := by
    have hd : (((List.range N).filter fun (j : Nat) => memI (nums l) (f + (j : Int))).map fun (j : Nat) => f + (j : Int)).Nodup := by
      rw [List.Nodup, List.pairwise_map]
      exact ((List.nodup_range (n := N)).filter _).imp fun h e => h (by omega)
    refine Nat.le_antisymm (List.Nodup.length_le_of_subset hd fun x hx => ?_) (List.Nodup.length_le_of_subset hn fun x hx => ?_)
    · obtain ⟨j, hj, rfl⟩ := List.mem_map.1 hx
      exact (memI_iff).1 (List.mem_filter.1 hj).2
    · have := hin x hx
      refine List.mem_map.2 ⟨(x - f).toNat, List.mem_filter.2 ⟨List.mem_range.2 (by omega), ?_⟩, by omega⟩
      rw [show f + ((x - f).toNat : Int) = x by omega]
      exact memI_iff.2 hx
  rw [List.length_map, nums_len] at h1
  have h2 := List.length_eq_countP_add_countP (fun (j : Nat) => memI (nums l) (f + (j : Int))) (l := List.range N)
  rw [List.countP_eq_length_filter, List.countP_eq_length_filter, List.length_range, h1] at h2
  have h3 : (gaps l f N).length = ((List.range N).filter fun (j : Nat) => decide ¬ (memI (nums l) (f + (j : Int)) = true)).length := by
    unfold gaps
    rw [List.length_map]
    congr 1
    refine List.filter_congr fun j _ => ?_
    cases memI (nums l) (f + (j : Int)) <;> rfl
  omega
theorem minTo_ord {l : List T3} (h : Frs l) (h0 : 0 < l.length) : ∀ k, k ≤ l.length → minTo (nums l) k = (at3 l 0).a
  | 0, _ => atI_nums h0
  | k + 1, hk => by
    have ih := minTo_ord h h0 k (by omega)
    have := h.le (i := 0) (k := k) (by omega) (by omega)
    unfold minTo gmin
    rw [ih, atI_nums (by omega)]
    split <;> omega
theorem maxTo_ord {l : List T3} (h : Frs l) (h0 : 0 < l.length) : ∀ k, k < l.length → maxTo (nums l) (k + 1) = (at3 l k).a
  | 0, _ => by unfold maxTo maxTo gmax; rw [atI_nums h0]; split <;> omega
  | k + 1, hk => by
    have ih := maxTo_ord h h0 k (by omega)
    have := h.lt (i := k) (k := k + 1) (by omega) hk
    rw [maxTo, ih, atI_nums hk]
    unfold gmax
    split <;> omega
def widF (l : List T3) : Nat := ((at3 l (l.length - 1)).a - (at3 l 0).a + 1).toNat
theorem Frs.missG {l : List T3} (h : Frs l) (h0 : 0 < l.length) : miss l = gaps l (at3 l 0).a (widF l) := by
  have h1 : loF l = (at3 l 0).a := minTo_ord h h0 l.length (Nat.le_refl _)
  have h2 : hiF l = (at3 l (l.length - 1)).a := by
    have := maxTo_ord h h0 (l.length - 1) (by omega)
    unfold hiF; rw [← this]; congr 1; omega
  have h3 := h.at (k := l.length - 1) (by omega)
  have h4 := h.at h0
  unfold widF
  rw [miss_yes h.framesG (by omega) (by omega), h1, h2]
theorem Frs.count {l : List T3} (h : Frs l) (h0 : 0 < l.length) : ((miss l).length : Int) + l.length = (at3 l (l.length - 1)).a - (at3 l 0).a + 1 := by
  rw [h.missG h0]
  have hle := h.le (i := 0) (k := l.length - 1) (by omega) (by omega)
  have := gaps_count (f := (at3 l 0).a) (N := widF l) h.numsG (fun x hx => by
    obtain ⟨y, hy, rfl⟩ := List.mem_map.1 hx
    obtain ⟨k, hk, rfl⟩ := List.getElem_of_mem hy
    have h1 := h.le (i := 0) (k := k) (by omega) hk
    have h2 := h.le (i := k) (k := l.length - 1) (by omega) (by omega)
    rw [← at3_eq _ _ hk]
    unfold widF; omega)
  unfold widF at this ⊢
  omega
theorem gaps_pair (l : List T3) (f : Int) (N : Nat) : (gaps l f N).Pairwise fun x y => x < y := by
  unfold gaps
  rw [List.pairwise_map]
  exact ((List.pairwise_lt_range (n := N)).filter _).imp fun h => by omega
theorem Frs.missAt {l : List T3} (h : Frs l) (h0 : 0 < l.length) {i : Nat} (hi : i < (miss l).length) : (at3 l 0).a < atI (miss l) i ∧ atI (miss l) i < (at3 l (l.length - 1)).a ∧ (0 < i → atI (miss l) (i - 1) < atI (miss l) i) := by
  have hle := h.le (i := 0) (k := l.length - 1) (by omega) (by omega)
  have hm := h.missG h0
  have hp := gaps_pair l (at3 l 0).a (widF l)
  rw [← hm] at hp
  have hmem : atI (miss l) i ∈ miss l := by rw [atI_eq _ _ hi]; exact List.getElem_mem hi
  obtain ⟨x, hx⟩ : ∃ x, x = atI (miss l) i := ⟨_, rfl⟩
  have h2 : x ∈ gaps l (at3 l 0).a (widF l) := by rw [← hm, hx]; exact hmem
  unfold gaps at h2
  obtain ⟨j, hj, e⟩ := List.mem_map.1 h2
  obtain ⟨h3, h4⟩ := List.mem_filter.1 hj
  have h3 : j < widF l := by simpa using h3
  have hno : ∀ k, k < l.length → (at3 l k).a ≠ (at3 l 0).a + (j : Int) := fun k hk e => by
    have : memI (nums l) ((at3 l 0).a + (j : Int)) = true := memI_iff.2 (by rw [← e, at3_eq _ _ hk]; exact List.mem_map.2 ⟨_, List.getElem_mem hk, rfl⟩)
    rw [this] at h4; cases h4
  have h5 := hno 0 h0
  have h6 := hno (l.length - 1) (by omega)
  rw [hx] at e
  unfold widF at h3
  refine ⟨by omega, by omega, fun h7 => ?_⟩
  rw [atI_eq _ _ hi, atI_eq _ _ (by omega)]
  exact List.pairwise_iff_getElem.1 hp (i - 1) i (by omega) hi (by omega)
def againL (l : List T3) : List T3 := l ++ [⟨(at3 l (l.length - 1)).a + 1, (at3 l (l.length - 1)).b + 1, (at3 l 0).c⟩, ⟨(at3 l (l.length - 1)).a + 2, (at3 l (l.length - 1)).b + 2, (at3 l 1).c⟩]
theorem againL_len (l : List T3) : (againL l).length = l.length + 2 := by simp [againL]
theorem again_repl {l : List T3} (h2 : 2 ≤ l.length) : 0 ≤ repl (againL l) ∧ repl (againL l) < l.length + 2 := by
  have at0 : ∀ i, i < l.length → at3 (againL l) i = at3 l i := fun i hi => by
    rw [at3_eq _ _ (by rw [againL_len]; omega), at3_eq _ _ hi]; unfold againL; rw [List.getElem_append_left hi]
  have atn : at3 (againL l) l.length = ⟨(at3 l (l.length - 1)).a + 1, (at3 l (l.length - 1)).b + 1, (at3 l 0).c⟩ := by
    rw [at3_eq _ _ (by rw [againL_len]; omega)]; unfold againL; rw [List.getElem_append_right (Nat.le_refl _)]; simp
  have atm : at3 (againL l) (l.length + 1) = ⟨(at3 l (l.length - 1)).a + 2, (at3 l (l.length - 1)).b + 2, (at3 l 1).c⟩ := by
    rw [at3_eq _ _ (by rw [againL_len]; omega)]; unfold againL; rw [List.getElem_append_right (by omega)]; simp
  have hh : replAt (againL l) (l.length + 1) = true := by
    unfold replAt
    rw [allN_false (k := 0) (by omega)]
    · rfl
    · unfold hit
      rw [show l.length + 1 - 1 = l.length by omega, at0 0 (by omega), at0 1 (by omega), atn, atm]
      simp
  have h0 : 0 ≤ repl (againL l) := firstN_nonneg.2 ⟨l.length + 1, by rw [againL_len]; omega, hh⟩
  refine ⟨h0, ?_⟩
  unfold repl firstN at h0 ⊢
  split
  · rename_i k hk
    have := List.mem_of_find?_eq_some hk
    rw [List.mem_range, againL_len] at this
    omega
  · omega
theorem Frs.lateG {l : List T3} (h : Frs l) (h2 : 2 ≤ l.length) : (lates l 1 0).length < l.length := by
  rw [lates_yes h.framesG (by decide) (by decide)]
  unfold idxs
  rw [List.length_map]
  have h0 : late l 1 0 0 = false := by
    have := h.at (k := 0) (by omega)
    unfold late
    rw [Int.sub_self, IntWalk.wrap64_in 0 (by omega), Int.mul_zero, IntWalk.wrap64_in 0 (by omega), IntWalk.wrap64_in ((at3 l 0).b + 0) (by omega), IntWalk.wrap64_in _ (by omega)]
    exact decide_eq_false (by omega)
  have := List.length_filter_lt_length_iff_exists (l := List.range l.length) (p := late l 1 0)
  rw [List.length_range] at this
  exact this.2 ⟨0, List.mem_range.2 (by omega), by rw [h0]; simp⟩
theorem Frs.noLate {l : List T3} (h : Frs l) : lates l 1000 1000 = [] := by
  rw [lates_yes h.framesG (by decide) (by decide)]
  unfold idxs
  rw [List.map_eq_nil_iff, List.filter_eq_nil_iff]
  intro k hk
  have hk : k < l.length := by simpa using hk
  have h1 := h.at hk
  have h2 := h.at (k := 0) (by omega)
  have h3 := h.le (i := 0) (k := k) (by omega) hk
  unfold late
  rw [IntWalk.wrap64_in ((at3 l k).a - (at3 l 0).a) (by omega), IntWalk.wrap64_in (1000 * ((at3 l k).a - (at3 l 0).a)) (by omega), IntWalk.wrap64_in ((at3 l 0).b + 1000 * ((at3 l k).a - (at3 l 0).a)) (by omega), IntWalk.wrap64_in _ (by omega)]
  rw [decide_eq_false (by omega)]; simp
theorem Frs.short {l : List T3} (h : Frs l) (h2 : l.length < 2) : miss l = [] ∧ repl l = -1 := by
  refine ⟨?_, ?_⟩
  · rcases Nat.eq_zero_or_pos l.length with h0 | h0
    · exact miss_no2 h0
    · have := h.count h0
      rw [show l.length - 1 = 0 by omega] at this
      exact List.eq_nil_of_length_eq_zero (by omega)
  · unfold repl
    exact firstN_none fun j hj => replAt_small l j (by omega)
end Go.Proofs.Ytnjmhdlcmbpfpaa
