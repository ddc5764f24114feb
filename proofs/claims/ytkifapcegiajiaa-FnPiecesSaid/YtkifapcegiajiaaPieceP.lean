/- Plain law: the reference's search in breadth from a point, with the corners at the point ahead. No condition. -/
import Derived.Test.YtkifapcegiajiaaWayP
import Derived.Test.YtkifapcegiajiaaBfsD
namespace Go.Proofs.Ytkifapcegiajiaa
open Go.RowKit
set_option linter.unusedVariables false

def isE (F : List T2) (q : T2) (v : Nat) : Bool := eqP (at2 F v) q
def listE (F : List T2) (q : T2) (k : Nat) : List Nat := (List.range k).filter (isE F q)
theorem listE_yes {F : List T2} {q : T2} {k : Nat} (h : isE F q k = true) : listE F q (k + 1) = listE F q k ++ [k] := by
  unfold listE; rw [List.range_succ, List.filter_append]; simp [h]
theorem listE_no {F : List T2} {q : T2} {k : Nat} (h : isE F q k = false) : listE F q (k + 1) = listE F q k := by
  unfold listE; rw [List.range_succ, List.filter_append]; simp [h]
theorem listE_len (F : List T2) (q : T2) (k : Nat) : (listE F q k).length ≤ k := by
  unfold listE; have := List.length_filter_le (isE F q) (List.range k); rwa [List.length_range] at this
theorem listE_mem {F : List T2} {q : T2} {k x : Nat} (h : x ∈ listE F q k) : x < k ∧ isE F q x = true := by
  unfold listE at h; simpa using h
/-- The number at a corner. -/
def dv (F : List T2) (q : T2) (B : List Nd) (v : Nat) : Int := if isE F q v then 0 else distOf B v
def dC (F : List T2) (q : T2) (B : List Nd) : List Value := (List.range F.length).map fun v => .int .i64 (dv F q B v)
theorem dC_len (F : List T2) (q : T2) (B : List Nd) : (dC F q B).length = F.length := by simp [dC]
theorem dC_get {F : List T2} {q : T2} {B : List Nd} {v : Nat} (h : v < F.length) : (dC F q B)[v]? = some (.int .i64 (dv F q B v)) := by simp [dC, h]
theorem dC_snoc {F : List T2} {q : T2} {B : List Nd} {x : Nd} (hs : seenIn B x.v = false) (he : isE F q x.v = false) : dC F q (B ++ [x]) = (dC F q B).set x.v (.int .i64 x.d) := by
  apply List.ext_getElem?
  intro j
  rcases Nat.lt_or_ge j F.length with h | h
  · rw [dC_get h]
    unfold dv
    rw [distOf_snoc hs]
    by_cases hj : j = x.v
    · subst hj; rw [List.getElem?_set_self (by rw [dC_len]; exact h), if_pos rfl, he]; rfl
    · rw [List.getElem?_set_ne (fun e => hj e.symm), dC_get h, if_neg hj]; rfl
  · rw [List.getElem?_eq_none (by rw [dC_len]; exact h), List.getElem?_eq_none (by rw [List.length_set, dC_len]; exact h)]
set_option linter.unusedSectionVars false
section
variable (L F : List T2) (q : T2)
def bG (k : Nat) : List Nd := bfs (F.length + 1) (adjG L F q) F.length k
/-- How far the search is when the reference stands at place i of its list. -/
def kOf (i : Nat) : Nat := if i < (listE F q F.length).length then 1 else i + 1 - (listE F q F.length).length
def listN (B : List Nd) : List Nat := listE F q F.length ++ B.tail.map (·.v)
def rt : Nd := ⟨F.length, F.length, 0⟩
def newsG (j : Nat) (B : List Nd) (x : Nd) : List Nd := news j (adjG L F q) B x
end
set_option linter.unusedSectionVars false
section
variable {L F : List T2} {q : T2}
theorem bG_inv (k : Nat) : Inv (F.length + 1) (adjG L F q) F.length k (bG L F q k) := bfs_inv (by omega) k
theorem bG_rt (k : Nat) : rt F ∈ bG L F q k := by
  have h := bG_inv (L := L) (F := F) (q := q) k
  have := ndAt_mem (k := 0) h.pos
  rw [h.root] at this
  exact this
theorem adj_not {v j : Nat} (hv : v < F.length) (h : adjG L F q v j = true) : isE F q v = false := by
  unfold adjG at h
  simp only [Bool.and_eq_true, Bool.not_eq_true'] at h
  rw [at2_app hv] at h
  exact h.1
theorem adj_root {j : Nat} : adjG L F q F.length j = false := by
  unfold adjG; rw [at2_last]; rw [show eqP q q = true from eqP_iff.2 rfl]; rfl
/-- A node of the search that is no root is a corner that lies elsewhere. -/
theorem bG_node {k : Nat} {x : Nd} (hx : x ∈ bG L F q k) : x = rt F ∨ (x.v < F.length ∧ isE F q x.v = false) := by
  have h := bG_inv (L := L) (F := F) (q := q) k
  rcases h.par x hx with ⟨h1, h2, h3⟩ | ⟨y, hy, h1, h2, h3⟩
  · left
    obtain ⟨v, p, d⟩ := x
    simp only at h1 h2 h3
    subst h1 h2 h3
    rfl
  · right
    have hv : x.v < F.length := by
      rcases Nat.lt_or_ge x.v F.length with h4 | h4
      · exact h4
      · have := h.lt x hx
        rw [show x.v = F.length by omega, adj_root] at h3
        cases h3
    exact ⟨hv, adj_not hv h3⟩
theorem news_root {B : List Nd} {x : Nd} (hB : rt F ∈ B) : newsG L F q (F.length + 1) B x = newsG L F q F.length B x := by
  unfold newsG
  rw [news_step, show seenIn B F.length = true from seenIn_iff.2 ⟨_, hB, rfl⟩]
  simp
theorem bG_next {k : Nat} (h : k < (bG L F q k).length) : bG L F q (k + 1) = bG L F q k ++ newsG L F q F.length (bG L F q k) (ndAt (bG L F q k) k) := by
  have h1 := bfs_pre (n := F.length + 1) (adj := adjG L F q) (a := F.length) (k := k) h
  rw [← news_root (bG_rt k)]
  exact h1
theorem bG_zero : bG L F q 0 = [rt F] := rfl
theorem bG_one : bG L F q 1 = [rt F] ++ newsG L F q F.length [rt F] (rt F) := by
  have := bG_next (L := L) (F := F) (q := q) (k := 0) (by rw [bG_zero]; simp)
  rw [bG_zero] at this
  exact this
theorem news_again : newsG L F q F.length (bG L F q 1) (rt F) = [] := by
  unfold newsG news
  rw [List.map_eq_nil_iff, List.filter_eq_nil_iff]
  intro v hv h
  simp only [Bool.and_eq_true, Bool.not_eq_true'] at h
  have hv : v < F.length := by simpa using hv
  have h1 : (⟨v, F.length, 1⟩ : Nd) ∈ newsG L F q F.length [rt F] (rt F) := news_mem.2 ⟨hv, by unfold seenIn rt; simp; omega, h.2, rfl, rfl⟩
  have h2 : seenIn (bG L F q 1) v = true := seenIn_iff.2 ⟨⟨v, F.length, 1⟩, by rw [bG_one]; exact List.mem_append_right _ h1, rfl⟩
  rw [h2] at h
  cases h.1
/-- One round of the reference. -/
theorem round_is {i x : Nat} (hx : (listN F q (bG L F q (kOf F q i)))[i]? = some x) : ∃ y, y ∈ bG L F q (kOf F q i) ∧ x < F.length ∧ at2 (F ++ [q]) y.v = at2 F x ∧ dv F q (bG L F q (kOf F q i)) x = y.d ∧ bG L F q (kOf F q (i + 1)) = bG L F q (kOf F q i) ++ newsG L F q F.length (bG L F q (kOf F q i)) y := by
  unfold listN at hx
  by_cases hi : i < (listE F q F.length).length
  · have hk : kOf F q i = 1 := by unfold kOf; rw [if_pos hi]
    have hk' : kOf F q (i + 1) = 1 := by unfold kOf; split <;> omega
    rw [List.getElem?_append_left hi] at hx
    obtain ⟨h1, h2⟩ := listE_mem (List.mem_of_getElem? hx)
    refine ⟨rt F, bG_rt _, h1, ?_, ?_, ?_⟩
    · unfold rt; rw [at2_last]; exact (eqP_iff.1 h2).symm
    · unfold dv; rw [h2]; rfl
    · rw [hk, hk', news_again, List.append_nil]
  · have hk : kOf F q i = i + 1 - (listE F q F.length).length := by unfold kOf; rw [if_neg hi]
    have hk' : kOf F q (i + 1) = kOf F q i + 1 := by rw [hk]; unfold kOf; rw [if_neg (by omega)]; omega
    generalize kOf F q i = k at *
    rw [List.getElem?_append_right (by omega)] at hx
    have hlen : i - (listE F q F.length).length < (bG L F q k).tail.length := by
      have := (List.getElem?_eq_some_iff.1 hx).1
      simpa using this
    have hkl : k < (bG L F q k).length := by rw [List.length_tail] at hlen; omega
    have hnd : x = (ndAt (bG L F q k) k).v := by
      rw [List.getElem?_map, List.getElem?_tail, show i - (listE F q F.length).length + 1 = k by omega, List.getElem?_eq_getElem hkl] at hx
      rw [ndAt_eq _ _ hkl]
      simpa using hx.symm
    have hm := ndAt_mem hkl
    have hI := bG_inv (L := L) (F := F) (q := q) k
    have hne : ndAt (bG L F q k) k ≠ rt F := by
      intro e
      have h0 := hI.root
      have hp := hI.pos
      have hnd := hI.nodup
      rw [ndAt_eq _ _ hkl] at e
      rw [ndAt_eq _ _ hp] at h0
      have h1 : ((bG L F q k).map (·.v))[k]'(by simpa using hkl) = ((bG L F q k).map (·.v))[0]'(by simpa using hp) := by
        rw [List.getElem_map, List.getElem_map, e, h0]; rfl
      have := (List.getElem_inj (h := hnd) ).1 h1
      omega
    rcases bG_node hm with h | ⟨h1, h2⟩
    · exact absurd h hne
    · refine ⟨_, hm, by rw [hnd]; exact h1, by rw [at2_app h1, hnd], ?_, by rw [hk', bG_next hkl]⟩
      rw [hnd]; unfold dv; rw [h2]
      exact distOf_mem hI.nodup hm
theorem round_end {i : Nat} (h : (listN F q (bG L F q (kOf F q i))).length ≤ i) {v : Nat} : dv F q (bG L F q (kOf F q i)) v = distF L F q v := by
  unfold listN at h
  rw [List.length_append, List.length_map, List.length_tail] at h
  have hp := (bG_inv (L := L) (F := F) (q := q) (kOf F q i)).pos
  have hk : kOf F q i = i + 1 - (listE F q F.length).length := by unfold kOf; rw [if_neg (by omega)]
  have ht := tree_of (n := F.length + 1) (adj := adjG L F q) (a := F.length) (k := kOf F q i) (by omega) (by rw [← bG]; omega)
  unfold dv distF distG dist
  rw [← ht]
  rfl
theorem listN_len (k : Nat) : (listN F q (bG L F q k)).length ≤ 2 * F.length := by
  unfold listN
  rw [List.length_append, List.length_map, List.length_tail]
  have h1 := listE_len F q F.length
  have h2 := bfs_len (n := F.length + 1) (adj := adjG L F q) (a := F.length) (by omega) k
  unfold bG
  omega
end
end Go.Proofs.Ytkifapcegiajiaa
