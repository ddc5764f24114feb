/- Plain law: the list 'from' of a search in breadth, and the way back. No condition. -/
import Derived.Test.YtngniniiohgilaaBfs
import Derived.Test.YtngniniiohgilaaPush
namespace Go.Proofs.Ytngniniiohgilaa
set_option linter.unusedVariables false

theorem exists_least {p : Nat → Prop} (h : ∃ m, p m) : ∃ m, p m ∧ ∀ k, p k → m ≤ k := by
  obtain ⟨m, hm⟩ := h
  induction m using Nat.strongRecOn with
  | ind m ih =>
    by_cases h : ∃ k, p k ∧ k < m
    · obtain ⟨k, hk, hlt⟩ := h; exact ih k hlt hk
    · exact ⟨m, hm, fun k hk => Nat.le_of_not_lt fun h1 => h ⟨k, hk, h1⟩⟩
open Classical in
/-- The least number of which p holds; 0 if none. -/
noncomputable def least (p : Nat → Prop) : Nat := if h : ∃ m, p m then Classical.choose (exists_least h) else 0
theorem least_spec {p : Nat → Prop} (h : ∃ m, p m) : p (least p) ∧ ∀ k, p k → least p ≤ k := by
  unfold least; rw [dif_pos h]; exact Classical.choose_spec (exists_least h)

def parOf (L : List Nd) (v : Nat) : Int := match L.find? (fun x => x.v == v) with | some x => (x.p : Int) | none => -1
theorem parOf_none {L : List Nd} {v : Nat} (h : seenIn L v = false) : parOf L v = -1 := by
  unfold parOf
  rw [List.find?_eq_none.2]
  intro x hx e
  have : seenIn L v = true := seenIn_iff.2 ⟨x, hx, by simpa using e⟩
  rw [h] at this
  cases this
theorem parOf_seen {L : List Nd} {v : Nat} (h : seenIn L v = true) : ∃ x ∈ L, x.v = v ∧ parOf L v = x.p := by
  obtain ⟨x, hx, he⟩ := seenIn_iff.1 h
  unfold parOf
  cases hf : L.find? (fun x => x.v == v) with
  | none => rw [List.find?_eq_none] at hf; exact absurd (by simpa using he) (hf x hx)
  | some y => exact ⟨y, List.mem_of_find?_eq_some hf, by simpa using List.find?_some hf, rfl⟩
theorem parOf_neg {L : List Nd} {v : Nat} : parOf L v < 0 ↔ seenIn L v = false := by
  cases h : seenIn L v
  · rw [parOf_none h]; simp
  · obtain ⟨x, _, _, hp⟩ := parOf_seen h
    rw [hp]; simp
theorem nodup_eq {L : List Nd} (hd : (L.map (·.v)).Nodup) {x y : Nd} (hx : x ∈ L) (hy : y ∈ L) (h : x.v = y.v) : x = y := by
  induction L with
  | nil => cases hx
  | cons z L ih =>
    rw [List.map_cons, List.nodup_cons] at hd
    rcases List.mem_cons.1 hx with rfl | hx' <;> rcases List.mem_cons.1 hy with rfl | hy'
    · rfl
    · exact absurd (List.mem_map.2 ⟨y, hy', h.symm⟩) hd.1
    · exact absurd (List.mem_map.2 ⟨x, hx', h⟩) hd.1
    · exact ih hd.2 hx' hy'
theorem parOf_snoc {L : List Nd} {x : Nd} {v : Nat} (hs : seenIn L x.v = false) : parOf (L ++ [x]) v = if v = x.v then (x.p : Int) else parOf L v := by
  unfold parOf
  rw [List.find?_append]
  by_cases h : v = x.v
  · subst h
    rw [if_pos rfl, List.find?_eq_none.2]
    · simp
    · intro y hy e
      have : seenIn L x.v = true := seenIn_iff.2 ⟨y, hy, by simpa using e⟩
      rw [hs] at this; cases this
  · rw [if_neg h]
    have : ([x].find? fun y => y.v == v) = none := by simp; intro e; exact h e.symm
    rw [this]; simp
def fromC (n : Nat) (L : List Nd) : List Value := (List.range n).map fun v => .int .i64 (parOf L v)
theorem fromC_len (n : Nat) (L : List Nd) : (fromC n L).length = n := by simp [fromC]
theorem fromC_get {n : Nat} {L : List Nd} {v : Nat} (h : v < n) : (fromC n L)[v]? = some (.int .i64 (parOf L v)) := by
  simp [fromC, h]
theorem fromC_nil (n : Nat) : fromC n [] = List.replicate n (.int .i64 (-1)) := by
  apply List.ext_getElem?
  intro j
  rcases Nat.lt_or_ge j n with h | h
  · rw [fromC_get h]; simp [h, parOf]
  · rw [List.getElem?_eq_none (by rw [fromC_len]; exact h), List.getElem?_eq_none (by simpa using h)]
theorem fromC_snoc {n : Nat} {L : List Nd} {x : Nd} (hx : x.v < n) (hs : seenIn L x.v = false) : fromC n (L ++ [x]) = (fromC n L).set x.v (.int .i64 x.p) := by
  apply List.ext_getElem?
  intro j
  rcases Nat.lt_or_ge j n with h | h
  · rw [fromC_get h, parOf_snoc hs]
    by_cases hj : j = x.v
    · subst hj; rw [List.getElem?_set_self (by rw [fromC_len]; exact h), if_pos rfl]
    · rw [List.getElem?_set_ne (fun e => hj e.symm), fromC_get h, if_neg hj]
  · rw [List.getElem?_eq_none (by rw [fromC_len]; exact h), List.getElem?_eq_none (by rw [List.length_set, fromC_len]; exact h)]

def lk (p : Nat → Bool) (n : Nat) : List Nat := (List.range n).filter p
theorem idxs_lk (p : Nat → Bool) (n : Nat) : idxs p n = (lk p n).map fun (j : Nat) => (j : Int) := rfl
theorem lk_len (p : Nat → Bool) (n : Nat) : (lk p n).length ≤ n := by
  have := List.length_filter_le p (List.range n)
  rw [List.length_range] at this
  exact this
theorem lk_lt {p : Nat → Bool} {n v : Nat} (h : v ∈ lk p n) : v < n ∧ p v = true := by simpa [lk] using h
theorem lk_nodup (p : Nat → Bool) (n : Nat) : (lk p n).Nodup := List.Pairwise.filter _ List.nodup_range
def natAt (l : List Nat) (j : Nat) : Nat := l.getD j 0
theorem natAt_eq (l : List Nat) (j : Nat) (h : j < l.length) : natAt l j = l[j] := by simp [natAt, List.getD, h]
theorem natAt_mem {l : List Nat} {j : Nat} (h : j < l.length) : natAt l j ∈ l := by rw [natAt_eq _ _ h]; exact List.getElem_mem h
theorem idxs_at {p : Nat → Bool} {n j : Nat} (h : j < (lk p n).length) : ((idxs p n).map (Value.int .i64))[j]? = some (.int .i64 (natAt (lk p n) j)) := by
  rw [idxs_lk, List.getElem?_map, List.getElem?_map, List.getElem?_eq_getElem h, natAt_eq _ _ h]; rfl
def newsTo (L : List Nd) (q : Nd) (ns : List Nat) : List Nd := (ns.filter fun i => !seenIn L i).map fun i => ⟨i, q.v, q.d + 1⟩
theorem news_lk (n : Nat) (adj : Nat → Nat → Bool) (L : List Nd) (q : Nd) : news n adj L q = newsTo L q (lk (fun i => adj i q.v) n) := by
  unfold news newsTo lk
  rw [List.filter_filter]
theorem newsTo_step {L : List Nd} {q : Nd} {ns : List Nat} {j : Nat} (h : j < ns.length) : newsTo L q (ns.take (j + 1)) = newsTo L q (ns.take j) ++ if seenIn L (natAt ns j) then [] else [⟨natAt ns j, q.v, q.d + 1⟩] := by
  unfold newsTo
  rw [List.take_succ_eq_append_getElem h, List.filter_append, List.map_append, ← natAt_eq _ _ h]
  congr 1
  cases hs : seenIn L (natAt ns j) <;> simp [hs]
theorem newsTo_all {L : List Nd} {q : Nd} {ns : List Nat} {j : Nat} (h : ns.length ≤ j) : newsTo L q (ns.take j) = newsTo L q ns := by rw [List.take_of_length_le h]
theorem newsTo_len (L : List Nd) (q : Nd) (ns : List Nat) : (newsTo L q ns).length ≤ ns.length := by unfold newsTo; rw [List.length_map]; exact List.length_filter_le _ _
theorem newsTo_seen {L : List Nd} {q : Nd} {ns : List Nat} {j : Nat} (h : j < ns.length) (hd : ns.Nodup) : seenIn (L ++ newsTo L q (ns.take j)) (natAt ns j) = seenIn L (natAt ns j) := by
  have : seenIn (newsTo L q (ns.take j)) (natAt ns j) = false := by
    cases hc : seenIn (newsTo L q (ns.take j)) (natAt ns j) with
    | false => rfl
    | true =>
      obtain ⟨x, hx, hxv⟩ := seenIn_iff.1 hc
      unfold newsTo at hx
      obtain ⟨i, hi, rfl⟩ := List.mem_map.1 hx
      have hi1 := (List.mem_filter.1 hi).1
      obtain ⟨a, ha, hai⟩ := List.getElem_of_mem hi1
      rw [List.length_take] at ha
      rw [List.getElem_take] at hai
      have he : ns[a] = ns[j] := by rw [hai, ← natAt_eq ns j h]; exact hxv
      exact absurd he (by
        have := List.pairwise_iff_getElem.1 hd a j (by omega) h (by omega)
        exact this)
  unfold seenIn at this ⊢
  rw [List.any_append, this, Bool.or_false]

/-- The first k steps of the way back. -/
def backTo (L : List Nd) (v : Nat) : Nat → Nat
  | 0 => v
  | k + 1 => (parOf L (backTo L v k)).toNat
theorem par_of {L : List Nd} (hd : (L.map (·.v)).Nodup) {y : Nd} (hy : y ∈ L) : parOf L y.v = y.p := by
  obtain ⟨x, hx, hv, hp⟩ := parOf_seen (seenIn_iff.2 ⟨y, hy, rfl⟩)
  rw [hp, nodup_eq hd hx hy hv]
theorem back_inv {n : Nat} {adj : Nat → Nat → Bool} {a k : Nat} {L : List Nd} (hi : Inv n adj a k L) {x : Nd} (hx : x ∈ L) : ∀ j, j ≤ x.d → ∃ y ∈ L, y.v = backTo L x.v j ∧ y.d = x.d - j
  | 0, _ => ⟨x, hx, rfl, rfl⟩
  | j + 1, hj => by
    obtain ⟨y, hy, hv, hd⟩ := back_inv hi hx j (by omega)
    rcases hi.par y hy with ⟨h0, _⟩ | ⟨z, hz, hzv, hzd, _⟩
    · omega
    · refine ⟨z, hz, ?_, by omega⟩
      show z.v = (parOf L (backTo L x.v j)).toNat
      rw [← hv, par_of hi.nodup hy, hzv]; rfl
theorem back_root {n : Nat} {adj : Nat → Nat → Bool} {a k : Nat} {L : List Nd} (hi : Inv n adj a k L) {y : Nd} (hy : y ∈ L) : y.v = a ↔ y.d = 0 := by
  have hr : (⟨a, a, 0⟩ : Nd) ∈ L := by rw [← hi.root]; exact ndAt_mem hi.pos
  constructor
  · intro h; rw [nodup_eq hi.nodup hy hr h]
  · intro h
    rcases hi.par y hy with ⟨_, h1, _⟩ | ⟨z, _, _, h1, _⟩
    · exact h1
    · omega
theorem back_lt {n : Nat} {adj : Nat → Nat → Bool} {a k : Nat} {L : List Nd} (hi : Inv n adj a k L) {x : Nd} (hx : x ∈ L) {j : Nat} (hj : j ≤ x.d) : backTo L x.v j < n ∧ (backTo L x.v j = a ↔ j = x.d) ∧ seenIn L (backTo L x.v j) = true := by
  obtain ⟨y, hy, hv, hd⟩ := back_inv hi hx j hj
  rw [← hv]
  refine ⟨hi.lt y hy, ?_, seenIn_iff.2 ⟨y, hy, rfl⟩⟩
  rw [back_root hi hy]; omega
theorem tree_of {n : Nat} {adj : Nat → Nat → Bool} {a k : Nat} (ha : a < n) (h : (bfs n adj a k).length ≤ k) : bfs n adj a k = tree n adj a := by
  have h1 : ∀ j, bfs n adj a (k + j) = bfs n adj a k := fun j => by
    induction j with
    | zero => rfl
    | succ j ih => rw [← Nat.add_assoc, bfs_stop (by rw [ih]; omega), ih]
  unfold tree
  rcases Nat.le_total k n with hk | hk
  · have := h1 (n - k)
    rw [show k + (n - k) = n by omega] at this
    exact this.symm
  · have h2 := bfs_len (adj := adj) ha n
    have h3 : ∀ j, bfs n adj a (n + j) = bfs n adj a n := fun j => by
      induction j with
      | zero => rfl
      | succ j ih => rw [← Nat.add_assoc, bfs_stop (by rw [ih]; omega), ih]
    have := h3 (k - n)
    rw [show n + (k - n) = k by omega] at this
    exact this
theorem bfs_depth {n : Nat} {adj : Nat → Nat → Bool} {a : Nat} : ∀ k i, i < (bfs n adj a k).length → (ndAt (bfs n adj a k) i).d ≤ i
  | 0, i, h => by
    obtain rfl : i = 0 := by simp [bfs] at h; exact h
    exact Nat.le_refl _
  | k + 1, i, h => by
    by_cases hk : k < (bfs n adj a k).length
    · rw [bfs_pre hk] at h ⊢
      rcases Nat.lt_or_ge i (bfs n adj a k).length with h1 | h1
      · rw [ndAt_app h1]; exact bfs_depth k i h1
      · have h2 := ndAt_right h1 h
        have h3 := (news_mem.1 h2).2.2.2.2
        have h4 := bfs_depth k k hk
        omega
    · rw [bfs_stop hk] at h ⊢; exact bfs_depth k i h
theorem depth_lt {n : Nat} {adj : Nat → Nat → Bool} {a k : Nat} (ha : a < n) {x : Nd} (hx : x ∈ bfs n adj a k) : x.d < n := by
  obtain ⟨i, hi, he⟩ := List.getElem_of_mem hx
  have h1 := bfs_depth k i hi
  rw [ndAt_eq _ _ hi, he] at h1
  have := bfs_len (adj := adj) ha k
  omega
/-- The way back, whole. -/
def wayB (L : List Nd) (v m : Nat) : List Int := (List.range (m + 1)).map fun j => (backTo L v j : Int)
theorem wayB_zero (L : List Nd) (v : Nat) : wayB L v 0 = [(v : Int)] := rfl
theorem wayB_step (L : List Nd) (v m : Nat) : wayB L v (m + 1) = wayB L v m ++ [(backTo L v (m + 1) : Int)] := by unfold wayB; rw [List.range_succ, List.map_append]; rfl
theorem wayB_len (L : List Nd) (v m : Nat) : (wayB L v m).length = m + 1 := by simp [wayB]
def lenV : Value → Nat
  | .slice _ n _ => n
  | _ => 0
end Go.Proofs.Ytngniniiohgilaa
