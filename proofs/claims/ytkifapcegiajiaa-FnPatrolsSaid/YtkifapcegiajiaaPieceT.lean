/- The boxes and rows of the program's search for pieces, and how they change. No condition. -/
import Derived.Test.YtkifapcegiajiaaCopyP
import Derived.Test.YtkifapcegiajiaaQueueB
namespace Go.Proofs.Ytkifapcegiajiaa
open Go.RowKit
set_option linter.unusedVariables false

theorem exists_least {p : Nat → Prop} (h : ∃ m, p m) : ∃ m, p m ∧ ∀ k, p k → m ≤ k := by
  obtain ⟨m, hm⟩ := h
  induction m using Nat.strongRecOn with
  | ind m ih =>
    by_cases h : ∃ k, p k ∧ k < m
    · obtain ⟨k, hk, hlt⟩ := h; exact ih k hlt hk
    · exact ⟨m, hm, fun k hk => Nat.le_of_not_lt fun h1 => h ⟨k, hk, h1⟩⟩
open Classical in
/-- The least number of which p holds; 0 if none. -/
noncomputable def least (p : Nat → Prop) : Nat := if h : ∃ m, p m then Classical.choose (exists_least h) else 0
theorem least_spec {p : Nat → Prop} (h : ∃ m, p m) : p (least p) ∧ ∀ k, p k → least p ≤ k := by
  unfold least; rw [dif_pos h]; exact Classical.choose_spec (exists_least h)
/-- Nodes, numbers, queue of points, queue of lengths: each in a block of its own. -/
structure PT (A : Option Addr) (c : Nat) (L : List T2) (p q : T2) (w : World) (F : List T2) (gn on_ cn gd : Nat) (cs : List Value) (gq oq cq mq : Nat) (xs : List T2) (gl ol cl : Nat) (ds : List Nat) (wr : World) : Prop where
  C : Cw A L.length c q w wr p
  N : QB (w.heap.size + 3) 35 wr (some ⟨gn, on_, none⟩) F.length cn (F.flatMap T2.v)
  D : wr.ownsRow (w.heap.size + 3) 3 1 (.slice (some ⟨gd, 0, none⟩) F.length F.length) F.length cs
  Q : QB (w.heap.size + 3) 35 wr (some ⟨gq, oq, none⟩) mq cq (xs.flatMap T2.v)
  S : QAt (w.heap.size + 3) 3 wr (some ⟨gl, ol, none⟩) mq cl (vl ds)
  ne : (gn ≠ gd ∧ gq ≠ gd ∧ gl ≠ gd) ∧ gn ≠ gq ∧ gn ≠ gl ∧ gq ≠ gl
section
variable {A : Option Addr} {c : Nat} {L : List T2} {p q : T2} {w : World} {F : List T2} {gn on_ cn gd : Nat} {cs : List Value} {gq oq cq mq : Nat} {xs : List T2} {gl ol cl : Nat} {ds : List Nat} {wr : World}
theorem QAt.lo {base : Nat} {e : TypeId} {w : World} {g off m c : Nat} {xs : List Value} (h : QAt base e w (some ⟨g, off, none⟩) m c xs) : base ≤ g ∧ g < w.heap.size ∧ ∀ j u, xs[j]? = some u → w.cell? ⟨g, off + j, none⟩ = some u := by
  obtain ⟨g', off', hA, h1, h2, h3⟩ := h.at_
  injection hA with hA; injection hA with hA1 hA2; subst hA1 hA2
  exact ⟨h1, h2, h3⟩
theorem PT.ext (h : PT A c L p q w F gn on_ cn gd cs gq oq cq mq xs gl ol cl ds wr) {wr' : World} (e : Ext wr wr') : PT A c L p q w F gn on_ cn gd cs gq oq cq mq xs gl ol cl ds wr' :=
  ⟨h.C.ext e, h.N.ext e, own_ext h.D e, h.Q.ext e, h.S.ext e, h.ne⟩
theorem PT.put (h : PT A c L p q w F gn on_ cn gd cs gq oq cq mq xs gl ol cl ds wr) (j : Nat) (u : Value) : PT A c L p q w F gn on_ cn gd (cs.set j u) gq oq cq mq xs gl ol cl ds (wr.setCell ⟨gd, j, none⟩ u) := by
  have hs := h.D.stored j u
  have hb := (h.D.lt gd rfl).1
  exact ⟨h.C.grown hs.2 (fun k hk => by injection hk with hk; omega), h.N.kept hs.2 h.ne.1.1, hs.1, h.Q.kept hs.2 h.ne.1.2.1, h.S.keptN hs.2 h.ne.1.2.2, h.ne⟩
theorem PT.pushQ (h : PT A c L p q w F gn on_ cn gd cs gq oq cq mq xs gl ol cl ds wr) {g' o' c2 m' : Nat} {ys : List T2} {wr' : World} (hQ : QB (w.heap.size + 3) 35 wr' (some ⟨g', o', none⟩) m' c2 (ys.flatMap T2.v)) (hg : wr.grownBy wr' (some gq)) (hn : g' = gq ∨ wr.heap.size ≤ g') :
    (Cw A L.length c q w wr' p ∧ QB (w.heap.size + 3) 35 wr' (some ⟨gn, on_, none⟩) F.length cn (F.flatMap T2.v)) ∧ (wr'.ownsRow (w.heap.size + 3) 3 1 (.slice (some ⟨gd, 0, none⟩) F.length F.length) F.length cs ∧ QAt (w.heap.size + 3) 3 wr' (some ⟨gl, ol, none⟩) mq cl (vl ds)) ∧ (gn ≠ gd ∧ g' ≠ gd ∧ gl ≠ gd) ∧ gn ≠ g' ∧ gn ≠ gl ∧ g' ≠ gl := by
  obtain ⟨⟨n1, n2, n3⟩, n4, n5, n6⟩ := h.ne
  have hb := h.Q.at_
  have hd := h.D.lt gd rfl
  have hN := h.N.at_
  have hS := h.S.lo
  refine ⟨⟨h.C.grown hg (fun k hk => by injection hk with hk; omega), h.N.kept hg n4⟩, ⟨h.D.kept hg (.inr fun h1 => n2 (by simpa [Value.ownBlock] using h1.symm)), h.S.keptN hg (fun e => n6 e.symm)⟩, ⟨n1, ?_, n3⟩, ?_, n5, ?_⟩
  · rcases hn with rfl | hn
    · exact n2
    · omega
  · rcases hn with rfl | hn
    · exact n4
    · omega
  · rcases hn with rfl | hn
    · exact n6
    · omega
/-- Both queues have grown. -/
theorem PT.push (h : PT A c L p q w F gn on_ cn gd cs gq oq cq mq xs gl ol cl ds wr) {g' o' c2 : Nat} {x : T2} {w2 : World} (hQ : QB (w.heap.size + 3) 35 w2 (some ⟨g', o', none⟩) (mq + 1) c2 (xs.flatMap T2.v ++ [.int .i64 x.a, .int .i64 x.b])) (hg : wr.grownBy w2 (some gq)) (hn : g' = gq ∨ wr.heap.size ≤ g')
    {g3 o3 c3 d : Nat} {w3 : World} (hS : QAt (w.heap.size + 3) 3 w3 (some ⟨g3, o3, none⟩) (mq + 1) c3 (vl ds ++ [.int .i64 (d : Int)])) (hg3 : w2.grownBy w3 (some gl)) (hn3 : g3 = gl ∨ w2.heap.size ≤ g3) :
    PT A c L p q w F gn on_ cn gd cs g' o' c2 (mq + 1) (xs ++ [x]) g3 o3 c3 (ds ++ [d]) w3 := by
  obtain ⟨⟨k1, k2⟩, ⟨k3, k4⟩, ⟨n1, n2, n3⟩, n4, n5, n6⟩ := h.pushQ (ys := xs ++ [x]) (by rw [List.flatMap_append]; exact hQ) hg hn
  have hb := k4.lo
  have hd := k3.lt gd rfl
  have hN := k2.at_
  have hq := hQ.at_
  refine ⟨k1.grown hg3 (fun k hk => by injection hk with hk; omega), k2.kept hg3 n5, k3.kept hg3 (.inr fun h1 => n3 (by simpa [Value.ownBlock] using h1.symm)), by rw [List.flatMap_append]; exact hQ.kept hg3 n6, by rw [vl_snoc]; exact hS, ⟨n1, n2, ?_⟩, n4, ?_, ?_⟩
  · rcases hn3 with rfl | hn3
    · exact n3
    · omega
  · rcases hn3 with rfl | hn3
    · exact n5
    · omega
  · rcases hn3 with rfl | hn3
    · exact n6
    · omega
/-- Both queues have lost their first. -/
theorem PT.tail {x : T2} {d : Nat} (h : PT A c L p q w F gn on_ cn gd cs gq oq cq (mq + 1) (x :: xs) gl ol cl (d :: ds) wr) {B E : Option Addr} (hB : B = some ⟨gq, oq + 2, none⟩ ∨ cq = 1 ∧ B = some ⟨gq, oq, none⟩) (hE : E = some ⟨gl, ol + 1, none⟩ ∨ cl = 1 ∧ E = some ⟨gl, ol, none⟩) :
    ∃ o1 o2, B = some ⟨gq, o1, none⟩ ∧ E = some ⟨gl, o2, none⟩ ∧ PT A c L p q w F gn on_ cn gd cs gq o1 (cq - 1) mq xs gl o2 (cl - 1) ds wr := by
  have h1 := QB.tail (x := .int .i64 x.a) (y := .int .i64 x.b) (xs := xs.flatMap T2.v) h.Q hB
  have h2 := QAt.tail (x := .int .i64 (d : Int)) (xs := vl ds) h.S hE
  obtain ⟨o1, rfl⟩ : ∃ o1, B = some ⟨gq, o1, none⟩ := by
    rcases hB with h | ⟨_, h⟩
    · exact ⟨_, h⟩
    · exact ⟨_, h⟩
  obtain ⟨o2, rfl⟩ : ∃ o2, E = some ⟨gl, o2, none⟩ := by
    rcases hE with h | ⟨_, h⟩
    · exact ⟨_, h⟩
    · exact ⟨_, h⟩
  exact ⟨o1, o2, rfl, rfl, h.C, h.N, h.D, h1, h2, h.ne⟩
theorem PT.node (h : PT A c L p q w F gn on_ cn gd cs gq oq cq mq xs gl ol cl ds wr) {k : Nat} (hk : k < F.length) : wr.cell? ⟨gn, on_ + k * 2, none⟩ = some (.int .i64 (at2 F k).a) ∧ wr.cell? ⟨gn, on_ + k * 2 + 1, none⟩ = some (.int .i64 (at2 F k).b) := by
  obtain ⟨_, _, hc⟩ := h.N.at_
  rw [at2_eq F k hk]
  refine ⟨?_, ?_⟩
  · have := hc (k * 2 + 0) _ (flat_get T2.v 2 T2.len F k 0 hk (by omega)); simpa using this
  · have := hc (k * 2 + 1) _ (flat_get T2.v 2 T2.len F k 1 hk (by omega)); simpa [Nat.add_assoc] using this
theorem PT.first {x : T2} {d : Nat} (h : PT A c L p q w F gn on_ cn gd cs gq oq cq mq (x :: xs) gl ol cl (d :: ds) wr) : (wr.cell? ⟨gq, oq, none⟩ = some (.int .i64 x.a) ∧ wr.cell? ⟨gq, oq + 1, none⟩ = some (.int .i64 x.b)) ∧ wr.cell? ⟨gl, ol, none⟩ = some (.int .i64 (d : Int)) := by
  obtain ⟨_, _, hc⟩ := h.Q.at_
  obtain ⟨_, _, hd⟩ := h.S.lo
  refine ⟨⟨?_, hc 1 _ rfl⟩, ?_⟩
  · have := hc 0 _ rfl; simpa using this
  · have := hd 0 _ rfl; simpa using this
end
/-- A first part of a row. -/
theorem own_part {w : World} {base g n m c : Nat} {e : TypeId} {cs : List Value} (h : w.ownsRow base e 1 (.slice (some ⟨g, 0, none⟩) m c) m cs) (hn : n ≤ m) : w.ownsRow base e 1 (.slice (some ⟨g, 0, none⟩) n c) n (cs.take n) := by
  have hl := h.1
  rcases h.2 with ⟨hv, _⟩ | ⟨g', cap, cur, hv, hb, hg, h1, h2, h3, h4⟩
  · cases hv
  · injection hv with a1 a2 a3
    injection a1 with a1
    injection a1 with a1
    subst a1 a3
    refine ⟨by rw [List.length_take]; omega, .inr ⟨g, c, cur, rfl, hb, hg, by omega, h2, h3, ?_⟩⟩
    rw [← h4, List.take_take, Nat.min_eq_left (by omega), Nat.mul_one]
/-- The numbers as the first loop lays them. -/
def d0 (F : List T2) (q : T2) (k v : Nat) : Int := if v < k ∧ isE F q v = true then 0 else -1
def d0C (F : List T2) (q : T2) (k : Nat) : List Value := (List.range F.length).map fun v => .int .i64 (d0 F q k v)
theorem d0C_get {F : List T2} {q : T2} {k v : Nat} (h : v < F.length) : (d0C F q k)[v]? = some (.int .i64 (d0 F q k v)) := by simp [d0C, h]
theorem d0C_len (F : List T2) (q : T2) (k : Nat) : (d0C F q k).length = F.length := by simp [d0C]
theorem d0C_zero (F : List T2) (q : T2) : d0C F q 0 = List.replicate F.length (.int .i64 (-1)) := by
  apply List.ext_getElem?
  intro j
  rcases Nat.lt_or_ge j F.length with h | h
  · rw [d0C_get h]; simp [h, d0]
  · rw [List.getElem?_eq_none (by rw [d0C_len]; exact h), List.getElem?_eq_none (by simpa using h)]
theorem d0C_no {F : List T2} {q : T2} {k : Nat} (h : isE F q k = false) : d0C F q (k + 1) = d0C F q k := by
  unfold d0C
  refine List.map_congr_left fun v hv => ?_
  unfold d0
  by_cases hvk : v = k
  · subst hvk; rw [h]; simp
  · simp only [show v < k + 1 ↔ v < k by omega]
theorem d0C_yes {F : List T2} {q : T2} {k : Nat} (hk : k < F.length) (h : isE F q k = true) : d0C F q (k + 1) = (d0C F q k).set k (.int .i64 0) := by
  apply List.ext_getElem?
  intro j
  rcases Nat.lt_or_ge j F.length with hj | hj
  · rw [d0C_get hj]
    by_cases hjk : j = k
    · subst hjk; rw [List.getElem?_set_self (by rw [d0C_len]; exact hj)]; unfold d0; rw [if_pos ⟨by omega, h⟩]
    · rw [List.getElem?_set_ne (fun e => hjk e.symm), d0C_get hj]
      unfold d0
      simp only [show j < k + 1 ↔ j < k by omega]
  · rw [List.getElem?_eq_none (by rw [d0C_len]; exact hj), List.getElem?_eq_none (by rw [List.length_set, d0C_len]; exact hj)]
theorem d0C_end (L F : List T2) (q : T2) : d0C F q F.length = dC F q (bG L F q 0) := by
  unfold d0C dC
  refine List.map_congr_left fun v hv => ?_
  have hv : v < F.length := by simpa using hv
  unfold d0 dv
  rw [bG_zero]
  cases h : isE F q v
  · have : distOf [rt F] v = -1 := distOf_none (by unfold seenIn rt; simp; omega)
    simp [this]
  · simp [hv]
/-- What stands in the queues. -/
def qx (F : List T2) (q : T2) (M : List Nd) : List T2 := M.map fun x => at2 (F ++ [q]) x.v
def qd (M : List Nd) : List Nat := M.map fun x => x.d
theorem dC_end {L F : List T2} {q : T2} {k : Nat} (h : (bG L F q k).length ≤ k) : dC F q (bG L F q k) = (List.range F.length).map fun v => .int .i64 (distF L F q v) := by
  unfold dC
  refine List.map_congr_left fun v hv => ?_
  have h1 := tree_of (n := F.length + 1) (adj := adjG L F q) (a := F.length) (k := k) (by omega) h
  unfold dv distF isE
  split
  · rfl
  · unfold distG dist
    rw [← h1]; rfl
theorem adj_val {L F : List T2} {q : T2} {j v : Nat} (hj : j < F.length) : adjG L F q j v = (!isE F q j && seesS L (at2 F j) (at2 (F ++ [q]) v)) := by
  unfold adjG isE
  rw [at2_app hj]
end Go.Proofs.Ytkifapcegiajiaa
