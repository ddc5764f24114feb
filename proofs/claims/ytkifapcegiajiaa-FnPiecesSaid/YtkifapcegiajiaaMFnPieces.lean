/- Texts merged: lemmas and walks under FnPieces. No condition. -/
import Derived.Test.YtkifapcegiajiaaCopyP
import Derived.Test.YtkifapcegiajiaaQueueB
import Derived.Test.YtkifapcegiajiaaPieceS
import Derived.Laws.CopyOwn
import Derived.Deep.RegionLaw
import Derived.Test.YtkifapcegiajiaaCornerS
import Derived.Test.YtkifapcegiajiaaDrawPt
import Derived.Test.YtkifapcegiajiaaHer9
import Derived.Test.YtkifapcegiajiaaWayP
import Derived.Test.YtkifapcegiajiaaBestS
import Derived.Test.YtkifapcegiajiaaFloorP
import Derived.Test.YtkifapcegiajiaaSeesS
import Derived.Test.YtkifapcegiajiaaSymm
import Derived.Test.YtkifapcegiajiaaFloorS
import Derived.Test.YtkifapcegiajiaaWalls
import Derived.Test.YtkifapcegiajiaaDraw2
import Derived.Test.YtkifapcegiajiaaPush
import Derived.Test.YtkifapcegiajiaaRowM
import Derived.Test.YtkifapcegiajiaaHer4
import Derived.Laws.OwnMore
/- The boxes and rows of the program's search for pieces, and how they change. No condition. -/
namespace Go.Proofs.Ytkifapcegiajiaa
open Go.RowKit
set_option linter.unusedVariables false

theorem exists_least {p : Nat → Prop} (h : ∃ m, p m) : ∃ m, p m ∧ ∀ k, p k → m ≤ k := by
  obtain ⟨m, hm⟩ := h
  induction m using Nat.strongRecOn with
  | ind m ih =>
    by_cases h : ∃ k, p k ∧ k < m
    · obtain ⟨k, hk, hlt⟩ := h; exact ih k hlt hk
    · exact ⟨m, hm, fun k hk => Nat.le_of_not_lt fun h1 => h ⟨k, hk, h1⟩⟩
open Classical in
/-- The least number of which p holds; 0 if none. -/
noncomputable def least (p : Nat → Prop) : Nat := if h : ∃ m, p m then Classical.choose (exists_least h) else 0
theorem least_spec {p : Nat → Prop} (h : ∃ m, p m) : p (least p) ∧ ∀ k, p k → least p ≤ k := by
  unfold least; rw [dif_pos h]; exact Classical.choose_spec (exists_least h)
/-- Nodes, numbers, queue of points, queue of lengths: each in a block of its own. -/
structure PT (A : Option Addr) (c : Nat) (L : List T2) (p q : T2) (w : World) (F : List T2) (gn on_ cn gd : Nat) (cs : List Value) (gq oq cq mq : Nat) (xs : List T2) (gl ol cl : Nat) (ds : List Nat) (wr : World) : Prop where
  C : Cw A L.length c q w wr p
  N : QB (w.heap.size + 3) 35 wr (some ⟨gn, on_, none⟩) F.length cn (F.flatMap T2.v)
  D : wr.ownsRow (w.heap.size + 3) 3 1 (.slice (some ⟨gd, 0, none⟩) F.length F.length) F.length cs
  Q : QB (w.heap.size + 3) 35 wr (some ⟨gq, oq, none⟩) mq cq (xs.flatMap T2.v)
  S : QAt (w.heap.size + 3) 3 wr (some ⟨gl, ol, none⟩) mq cl (vl ds)
  ne : (gn ≠ gd ∧ gq ≠ gd ∧ gl ≠ gd) ∧ gn ≠ gq ∧ gn ≠ gl ∧ gq ≠ gl
section
variable {A : Option Addr} {c : Nat} {L : List T2} {p q : T2} {w : World} {F : List T2} {gn on_ cn gd : Nat} {cs : List Value} {gq oq cq mq : Nat} {xs : List T2} {gl ol cl : Nat} {ds : List Nat} {wr : World}
theorem QAt.lo {base : Nat} {e : TypeId} {w : World} {g off m c : Nat} {xs : List Value} (h : QAt base e w (some ⟨g, off, none⟩) m c xs) : base ≤ g ∧ g < w.heap.size ∧ ∀ j u, xs[j]? = some u → w.cell? ⟨g, off + j, none⟩ = some u := by
  obtain ⟨g', off', hA, h1, h2, h3⟩ := h.at_
  injection hA with hA; injection hA with hA1 hA2; subst hA1 hA2
  exact ⟨h1, h2, h3⟩
theorem PT.ext (h : PT A c L p q w F gn on_ cn gd cs gq oq cq mq xs gl ol cl ds wr) {wr' : World} (e : Ext wr wr') : PT A c L p q w F gn on_ cn gd cs gq oq cq mq xs gl ol cl ds wr' :=
  ⟨h.C.ext e, h.N.ext e, own_ext h.D e, h.Q.ext e, h.S.ext e, h.ne⟩
theorem PT.put (h : PT A c L p q w F gn on_ cn gd cs gq oq cq mq xs gl ol cl ds wr) (j : Nat) (u : Value) : PT A c L p q w F gn on_ cn gd (cs.set j u) gq oq cq mq xs gl ol cl ds (wr.setCell ⟨gd, j, none⟩ u) := by
  have hs := h.D.stored j u
  have hb := (h.D.lt gd rfl).1
  exact ⟨h.C.grown hs.2 (fun k hk => by injection hk with hk; omega), h.N.kept hs.2 h.ne.1.1, hs.1, h.Q.kept hs.2 h.ne.1.2.1, h.S.keptN hs.2 h.ne.1.2.2, h.ne⟩
theorem PT.pushQ (h : PT A c L p q w F gn on_ cn gd cs gq oq cq mq xs gl ol cl ds wr) {g' o' c2 m' : Nat} {ys : List T2} {wr' : World} (hQ : QB (w.heap.size + 3) 35 wr' (some ⟨g', o', none⟩) m' c2 (ys.flatMap T2.v)) (hg : wr.grownBy wr' (some gq)) (hn : g' = gq ∨ wr.heap.size ≤ g') :
    (Cw A L.length c q w wr' p ∧ QB (w.heap.size + 3) 35 wr' (some ⟨gn, on_, none⟩) F.length cn (F.flatMap T2.v)) ∧ (wr'.ownsRow (w.heap.size + 3) 3 1 (.slice (some ⟨gd, 0, none⟩) F.length F.length) F.length cs ∧ QAt (w.heap.size + 3) 3 wr' (some ⟨gl, ol, none⟩) mq cl (vl ds)) ∧ (gn ≠ gd ∧ g' ≠ gd ∧ gl ≠ gd) ∧ gn ≠ g' ∧ gn ≠ gl ∧ g' ≠ gl := by
  obtain ⟨⟨n1, n2, n3⟩, n4, n5, n6⟩ := h.ne
  have hb := h.Q.at_
  have hd := h.D.lt gd rfl
  have hN := h.N.at_
  have hS := h.S.lo
  refine ⟨⟨h.C.grown hg (fun k hk => by injection hk with hk; omega), h.N.kept hg n4⟩, ⟨h.D.kept hg (.inr fun h1 => n2 (by simpa [Value.ownBlock] using h1.symm)), h.S.keptN hg (fun e => n6 e.symm)⟩, ⟨n1, ?_, n3⟩, ?_, n5, ?_⟩
  · rcases hn with rfl | hn
    · exact n2
    · omega
  · rcases hn with rfl | hn
    · exact n4
    · omega
  · rcases hn with rfl | hn
    · exact n6
    · omega
/-- Both queues have grown. -/
theorem PT.push (h : PT A c L p q w F gn on_ cn gd cs gq oq cq mq xs gl ol cl ds wr) {g' o' c2 : Nat} {x : T2} {w2 : World} (hQ : QB (w.heap.size + 3) 35 w2 (some ⟨g', o', none⟩) (mq + 1) c2 (xs.flatMap T2.v ++ [.int .i64 x.a, .int .i64 x.b])) (hg : wr.grownBy w2 (some gq)) (hn : g' = gq ∨ wr.heap.size ≤ g')
    {g3 o3 c3 d : Nat} {w3 : World} (hS : QAt (w.heap.size + 3) 3 w3 (some ⟨g3, o3, none⟩) (mq + 1) c3 (vl ds ++ [.int .i64 (d : Int)])) (hg3 : w2.grownBy w3 (some gl)) (hn3 : g3 = gl ∨ w2.heap.size ≤ g3) :
    PT A c L p q w F gn on_ cn gd cs g' o' c2 (mq + 1) (xs ++ [x]) g3 o3 c3 (ds ++ [d]) w3 := by
  obtain ⟨⟨k1, k2⟩, ⟨k3, k4⟩, ⟨n1, n2, n3⟩, n4, n5, n6⟩ := h.pushQ (ys := xs ++ [x]) (by rw [List.flatMap_append]; exact hQ) hg hn
  have hb := k4.lo
  have hd := k3.lt gd rfl
  have hN := k2.at_
  have hq := hQ.at_
  refine ⟨k1.grown hg3 (fun k hk => by injection hk with hk; omega), k2.kept hg3 n5, k3.kept hg3 (.inr fun h1 => n3 (by simpa [Value.ownBlock] using h1.symm)), by rw [List.flatMap_append]; exact hQ.kept hg3 n6, by rw [vl_snoc]; exact hS, ⟨n1, n2, ?_⟩, n4, ?_, ?_⟩
  · rcases hn3 with rfl | hn3
    · exact n3
    · omega
  · rcases hn3 with rfl | hn3
    · exact n5
    · omega
  · rcases hn3 with rfl | hn3
    · exact n6
    · omega
/-- Both queues have lost their first. -/
theorem PT.tail {x : T2} {d : Nat} (h : PT A c L p q w F gn on_ cn gd cs gq oq cq (mq + 1) (x :: xs) gl ol cl (d :: ds) wr) {B E : Option Addr} (hB : B = some ⟨gq, oq + 2, none⟩ ∨ cq = 1 ∧ B = some ⟨gq, oq, none⟩) (hE : E = some ⟨gl, ol + 1, none⟩ ∨ cl = 1 ∧ E = some ⟨gl, ol, none⟩) :
    ∃ o1 o2, B = some ⟨gq, o1, none⟩ ∧ E = some ⟨gl, o2, none⟩ ∧ PT A c L p q w F gn on_ cn gd cs gq o1 (cq - 1) mq xs gl o2 (cl - 1) ds wr := by
  have h1 := QB.tail (x := .int .i64 x.a) (y := .int .i64 x.b) (xs := xs.flatMap T2.v) h.Q hB
  have h2 := QAt.tail (x := .int .i64 (d : Int)) (xs := vl ds) h.S hE
  obtain ⟨o1, rfl⟩ : ∃ o1, B = some ⟨gq, o1, none⟩ := by
    rcases hB with h | ⟨_, h⟩
    · exact ⟨_, h⟩
    · exact ⟨_, h⟩
  obtain ⟨o2, rfl⟩ : ∃ o2, E = some ⟨gl, o2, none⟩ := by
    rcases hE with h | ⟨_, h⟩
    · exact ⟨_, h⟩
    · exact ⟨_, h⟩
  exact ⟨o1, o2, rfl, rfl, h.C, h.N, h.D, h1, h2, h.ne⟩
theorem PT.node (h : PT A c L p q w F gn on_ cn gd cs gq oq cq mq xs gl ol cl ds wr) {k : Nat} (hk : k < F.length) : wr.cell? ⟨gn, on_ + k * 2, none⟩ = some (.int .i64 (at2 F k).a) ∧ wr.cell? ⟨gn, on_ + k * 2 + 1, none⟩ = some (.int .i64 (at2 F k).b) := by
  obtain ⟨_, _, hc⟩ := h.N.at_
  rw [at2_eq F k hk]
  refine ⟨?_, ?_⟩
  · have := hc (k * 2 + 0) _ (flat_get T2.v 2 T2.len F k 0 hk (by omega)); simpa using this
  · have := hc (k * 2 + 1) _ (flat_get T2.v 2 T2.len F k 1 hk (by omega)); simpa [Nat.add_assoc] using this
theorem PT.first {x : T2} {d : Nat} (h : PT A c L p q w F gn on_ cn gd cs gq oq cq mq (x :: xs) gl ol cl (d :: ds) wr) : (wr.cell? ⟨gq, oq, none⟩ = some (.int .i64 x.a) ∧ wr.cell? ⟨gq, oq + 1, none⟩ = some (.int .i64 x.b)) ∧ wr.cell? ⟨gl, ol, none⟩ = some (.int .i64 (d : Int)) := by
  obtain ⟨_, _, hc⟩ := h.Q.at_
  obtain ⟨_, _, hd⟩ := h.S.lo
  refine ⟨⟨?_, hc 1 _ rfl⟩, ?_⟩
  · have := hc 0 _ rfl; simpa using this
  · have := hd 0 _ rfl; simpa using this
end
/-- A first part of a row. -/
theorem own_part {w : World} {base g n m c : Nat} {e : TypeId} {cs : List Value} (h : w.ownsRow base e 1 (.slice (some ⟨g, 0, none⟩) m c) m cs) (hn : n ≤ m) : w.ownsRow base e 1 (.slice (some ⟨g, 0, none⟩) n c) n (cs.take n) := by
  have hl := h.1
  rcases h.2 with ⟨hv, _⟩ | ⟨g', cap, cur, hv, hb, hg, h1, h2, h3, h4⟩
  · cases hv
  · injection hv with a1 a2 a3
    injection a1 with a1
    injection a1 with a1
    subst a1 a3
    refine ⟨by rw [List.length_take]; omega, .inr ⟨g, c, cur, rfl, hb, hg, by omega, h2, h3, ?_⟩⟩
    rw [← h4, List.take_take, Nat.min_eq_left (by omega), Nat.mul_one]
/-- The numbers as the first loop lays them. -/
def d0 (F : List T2) (q : T2) (k v : Nat) : Int := if v < k ∧ isE F q v = true then 0 else -1
def d0C (F : List T2) (q : T2) (k : Nat) : List Value := (List.range F.length).map fun v => .int .i64 (d0 F q k v)
theorem d0C_get {F : List T2} {q : T2} {k v : Nat} (h : v < F.length) : (d0C F q k)[v]? = some (.int .i64 (d0 F q k v)) := by simp [d0C, h]
theorem d0C_len (F : List T2) (q : T2) (k : Nat) : (d0C F q k).length = F.length := by simp [d0C]
theorem d0C_zero (F : List T2) (q : T2) : d0C F q 0 = List.replicate F.length (.int .i64 (-1)) := by
  apply List.ext_getElem?
  intro j
  rcases Nat.lt_or_ge j F.length with h | h
  · rw [d0C_get h]; simp [h, d0]
  · rw [List.getElem?_eq_none (by rw [d0C_len]; exact h), List.getElem?_eq_none (by simpa using h)]
theorem d0C_no {F : List T2} {q : T2} {k : Nat} (h : isE F q k = false) : d0C F q (k + 1) = d0C F q k := by
  unfold d0C
  refine List.map_congr_left fun v hv => ?_
  unfold d0
  by_cases hvk : v = k
  · subst hvk; rw [h]; simp
  · simp only [show v < k + 1 ↔ v < k by omega]
theorem d0C_yes {F : List T2} {q : T2} {k : Nat} (hk : k < F.length) (h : isE F q k = true) : d0C F q (k + 1) = (d0C F q k).set k (.int .i64 0) := by
  apply List.ext_getElem?
  intro j
  rcases Nat.lt_or_ge j F.length with hj | hj
  · rw [d0C_get hj]
    by_cases hjk : j = k
    · subst hjk; rw [List.getElem?_set_self (by rw [d0C_len]; exact hj)]; unfold d0; rw [if_pos ⟨by omega, h⟩]
    · rw [List.getElem?_set_ne (fun e => hjk e.symm), d0C_get hj]
      unfold d0
      simp only [show j < k + 1 ↔ j < k by omega]
  · rw [List.getElem?_eq_none (by rw [d0C_len]; exact hj), List.getElem?_eq_none (by rw [List.length_set, d0C_len]; exact hj)]
theorem d0C_end (L F : List T2) (q : T2) : d0C F q F.length = dC F q (bG L F q 0) := by
  unfold d0C dC
  refine List.map_congr_left fun v hv => ?_
  have hv : v < F.length := by simpa using hv
  unfold d0 dv
  rw [bG_zero]
  cases h : isE F q v
  · have : distOf [rt F] v = -1 := distOf_none (by unfold seenIn rt; simp; omega)
    simp [this]
  · simp [hv]
/-- What stands in the queues. -/
def qx (F : List T2) (q : T2) (M : List Nd) : List T2 := M.map fun x => at2 (F ++ [q]) x.v
def qd (M : List Nd) : List Nat := M.map fun x => x.d
theorem dC_end {L F : List T2} {q : T2} {k : Nat} (h : (bG L F q k).length ≤ k) : dC F q (bG L F q k) = (List.range F.length).map fun v => .int .i64 (distF L F q v) := by
  unfold dC
  refine List.map_congr_left fun v hv => ?_
  have h1 := tree_of (n := F.length + 1) (adj := adjG L F q) (a := F.length) (k := k) (by omega) h
  unfold dv distF isE
  split
  · rfl
  · unfold distG dist
    rw [← h1]; rfl
theorem adj_val {L F : List T2} {q : T2} {j v : Nat} (hj : j < F.length) : adjG L F q j v = (!isE F q j && seesS L (at2 F j) (at2 (F ++ [q]) v)) := by
  unfold adjG isE
  rw [at2_app hj]
end Go.Proofs.Ytkifapcegiajiaa
/- Walks: slices.Repeat of one number. Conditions: 1 to 11 times. -/
namespace Go.Proofs.Ytkifapcegiajiaa
open Go.RowKit
set_option linter.unusedVariables false

set_option maxHeartbeats 1600000 in
theorem Mul64_one (n : Nat) (h1 : 1 ≤ n) (h7 : n ≤ 11) (w : World) : Calls Try.prog 101 #[.int .u64 1, .int .u64 n] w fun e w' => e = .returned (.tuple #[.int .u64 0, .int .u64 n]) ∧ w = w' := by
  have h : n = 1 ∨ n = 2 ∨ n = 3 ∨ n = 4 ∨ n = 5 ∨ n = 6 ∨ n = 7 ∨ n = 8 ∨ n = 9 ∨ n = 10 ∨ n = 11 := by omega
  rcases h with rfl | rfl | rfl | rfl | rfl | rfl | rfl | rfl | rfl | rfl | rfl
  all_goals
    go_enter Try.func101, Try.ntmps101
    go_wp2_with fail
    go_ret2
    exact ⟨rfl, rfl⟩
theorem Mul_one (n : Nat) (h1 : 1 ≤ n) (h7 : n ≤ 11) (w : World) : Calls Try.prog 87 #[.int .u64 1, .int .u64 n] w fun e w' => e = .returned (.tuple #[.int .u64 0, .int .u64 n]) ∧ w = w' := by
  go_enter Try.func87, Try.ntmps87
  go_wp2_with (go_at_call 101; refine (Mul64_one n h1 h7 _).mono ?_; rintro _ _ ⟨rfl, rfl⟩)
  go_ret2
  exact ⟨rfl, rfl⟩
set_option maxHeartbeats 400000 in
set_option maxRecDepth 100000 in
theorem Repeat_any (n gx cx : Nat) (w : World) (h1 : 1 ≤ n) (h7 : n ≤ 11) (hx : w.cell? ⟨gx, 0, none⟩ = some (.int .i64 (-1))) :
    Calls Try.prog 64 #[.slice (some ⟨gx, 0, none⟩) 1 cx, .int .i64 n] w fun e w' => ∃ g, e = .returned (.slice (some ⟨g, 0, none⟩) n n) ∧ w'.ownsRow w.heap.size 3 1 (.slice (some ⟨g, 0, none⟩) n n) n (List.replicate n (.int .i64 (-1))) ∧ Ext w w' := by
  obtain ⟨i0, hi, hz0, hz1, hz2⟩ := info_parts info_intP
  go_enter Try.func64, Try.ntmps64
  go_wp2_with fail
  refine (Mul_one n h1 h7 _).mono ?_
  rintro _ _ ⟨rfl, rfl⟩
  go_wp2_with (at_make; refine wpList_make_full _ rfl (.tmp 29) (.tmp 29) 28 rfl w.heap.size 3 i0 _ 1 Try.underlying28 hi hz0 hz1 _ _ _ _ n rfl rfl rfl rfl (by rw [hz2]; omega) (by unfold maxLen; omega) (Nat.le_refl _) ?_)
  intro w1 hown hg
  have he1 : Ext w w1 := (Below.refl _ _).grown hg (Nat.le_refl _) (by simp)
  have HE1 := hid he1
  have hxc := hid ((Below.cell he1 (World.block_lt_of_cell? w _ hx)).trans hx)
  rcases hown.2 with ⟨hv, _⟩ | ⟨g0, cap, cur0, hv, _, hb, _, _, hsz, _⟩
  · cases hv
  injection hv with e1 e2 e3
  injection e1 with e1
  injection e1 with e1
  subst e1 e3
  have HB := hid (show w1.heap[w.heap.size]? = some (.cells cur0.toList.toArray 3 (0, 0)) by simpa using hb)
  have HL := hid (show cur0.toList.length = n by simpa using hsz)
  clear hown hg hb hsz he1 hx hz0 hz1 hz2 hi
  go_wp2_with (refine wpList_copy_splice rfl (.tmp 31) (.tmp 32) 28 28 rfl 3 Try.underlying28 (by kernel_rfl) _ _ _ _ _ _ rfl rfl w.heap.size 0 cur0.toList 3 HB.out [.int .i64 (-1)] (show 1 = Nat.min 1 n by unfold Nat.min; omega) (fun _ => ⟨rfl, ⟨gx, 0, none⟩, rfl, fun j v hj => by
      have hj0 : j = 0 := by have := (List.getElem?_eq_some_iff.1 hj).1; simpa using this
      subst hj0
      rw [show (⟨gx, 0, none⟩ : Addr).add 0 = ⟨gx, 0, none⟩ from rfl, hxc.out]
      simpa using hj⟩) (by rw [HL.out]; exact h1) (by simp [Value.oneCell']) w.heap.size w HE1.out (Nat.le_refl _) ?_)
  intro w2 hb2 he2
  have HM := hid (show Minus 1 (splice cur0.toList 0 [.int .i64 (-1)]) from fun j hj => by
    obtain rfl : j = 0 := by omega
    have hl := HL.out
    simp [splice])
  have HL2 := hid (show (splice cur0.toList 0 [.int .i64 (-1)]).length = n by have hl := HL.out; unfold splice; simp only [List.length_append, List.length_take, List.length_drop, List.length_cons, List.length_nil] at hl ⊢; omega)
  clear HB HL hxc HE1
  go_wp2_with fail
  go_loopw [8] (fun q wr => ∃ (q0 : Nat) (cs : List Value), q = .int .i64 ↑q0 ∧ 1 ≤ q0 ∧ q0 ≤ n ∧ wr.heap[w.heap.size]? = some (.cells cs.toArray 3 (0, 0)) ∧ cs.length = n ∧ Minus q0 cs ∧ Ext w wr) (fun q _ => n - (intOf q).toNat)
  case atStart => exact ⟨1, _, rfl, by omega, h1, hb2.out, HL2.out, HM.out, he2⟩
  case round =>
    obtain ⟨q, cs, rfl, hq1, hqn, hb, hl, hm, he⟩ := hrel
    have HB := hid hb
    have HL := hid hl
    have HM' := hid hm
    have HE := hid he
    clear hb hl hm he hb2 HM HL2 he2
    by_cases hlt : q < n
    · have HC := hid (show (cs.take (Nat.min q (n - q))).length = Nat.min q (n - q) by rw [List.length_take, HL.out]; unfold Nat.min; omega)
      have HCA := hid (show ∀ j v, (cs.take (Nat.min q (n - q)))[j]? = some v → j < q ∧ v = .int .i64 (-1) from fun j v hj => by
        have hjl := (List.getElem?_eq_some_iff.1 hj).1
        rw [HC.out] at hjl
        have hjq : j < q := Nat.lt_of_lt_of_le hjl (Nat.min_le_left _ _)
        rw [List.getElem?_take_of_lt hjl, HM'.out j hjq] at hj
        exact ⟨hjq, by injection hj with hj; exact hj.symm⟩)
      have HCELL := hid (show ∀ j, j < q → wr.drew.cell? ⟨w.heap.size, j, none⟩ = some (.int .i64 (-1)) from fun j hj => by
        have := cell_of_row wr w.heap.size j cs.toArray 3 (0, 0) HB.out
        rw [World.cell?_drew, this]
        simpa using HM'.out j hj)
      have hmin : Nat.min q (n - q) ≤ n - q := Nat.min_le_right _ _
      go_wp2_with fail
      have hne : ¬ (n = q) := by omega
      go_region_law (refine step_copy_splice rfl (.tmp 41) (.tmp 44) 28 28 rfl 3 Try.underlying28 (by kernel_rfl) (some ⟨w.heap.size, q, none⟩) (some ⟨w.heap.size, 0, none⟩) (n - q) (n - q) q n (by go_simp) (by go_simp) w.heap.size q cs 3 HB.out (cs.take (Nat.min q (n - q))) HC.out (fun _ => ⟨rfl, ⟨w.heap.size, 0, none⟩, rfl, fun j v hj => by
        obtain ⟨h1, h2⟩ := HCA.out j v hj
        rw [show (⟨w.heap.size, 0, none⟩ : Addr).add j = ⟨w.heap.size, j, none⟩ from by unfold Addr.add; split <;> simp_all, HCELL.out j h1, h2]⟩) (by rw [HC.out, HL.out]; omega) (fun v hv => by
        obtain ⟨j, hj⟩ := List.mem_iff_getElem?.1 hv
        rw [(HCA.out j v hj).2]; rfl) w.heap.size w HE.out.drew (Nat.le_refl _) ?_; intro w3 hb3 he3)
      go_simp
      have hwrap : IntKind.i64.wrap (↑q + ↑(min q (min (n - q) cs.length))) = ((q + Nat.min q (n - q) : Nat) : Int) := by
        have hl := HL.out
        rw [IntKind.wrap_i64, show min q (min (n - q) cs.length) = Nat.min q (n - q) from by unfold Nat.min; omega]
        unfold Nat.min; omega
      rw [hwrap]
      go_roundw
      case rel =>
        refine ⟨_, _, _, _, _, _, _, _, _, _, _, _, _, _, ?_, rfl⟩
        refine ⟨q + Nat.min q (n - q), splice cs q (cs.take (Nat.min q (n - q))), ?_, by omega, by omega, hb3.out, ?_, ?_, he3⟩
        · rfl
        · unfold splice; simp only [List.length_append, List.length_take, List.length_drop, HC.out, HL.out]; omega
        · intro j hj
          have hl := HL.out
          have hc := HC.out
          rcases Nat.lt_or_ge j q with h | h
          · unfold splice
            rw [List.getElem?_append_left (by rw [List.length_take]; omega), List.getElem?_take_of_lt h]; exact HM'.out j h
          · have hm : Nat.min q (n - q) ≤ q := Nat.min_le_left q (n - q)
            have hv : (cs.take (Nat.min q (n - q)))[j - q]? = some (.int .i64 (-1)) := by
              rw [List.getElem?_take_of_lt (by omega)]; exact HM'.out _ (by omega)
            unfold splice
            have e : (cs.take q).length = q := by rw [List.length_take]; omega
            rw [List.getElem?_append_right (by omega), e, List.getElem?_append_left (by omega)]; exact hv
      case measure =>
        show n - (((q + Nat.min q (n - q) : Nat) : Int)).toNat < n - ((q : Int)).toNat
        rw [Int.toNat_natCast, Int.toNat_natCast]
        unfold Nat.min; omega
    · go_wp2_with fail
      go_ret
      obtain rfl : q = n := by omega
      refine ⟨_, rfl, ?_, HE.out⟩
      have hr : cs = List.replicate q (.int .i64 (-1)) := by
        apply List.ext_getElem?
        intro j
        rcases Nat.lt_or_ge j q with h | h
        · rw [HM'.out j h]; simp [h]
        · rw [List.getElem?_eq_none (by rw [HL.out]; exact h), List.getElem?_eq_none (by simpa using h)]
      refine ⟨by simp, .inr ⟨w.heap.size, q, cs.toArray, rfl, Nat.le_refl _, HB.out, Nat.le_refl _, by unfold maxLen; omega, by simpa using HL.out, ?_⟩⟩
      rw [← hr, Nat.mul_one]
      exact List.take_of_length_le (by rw [HL.out]; exact Nat.le_refl _)
end Go.Proofs.Ytkifapcegiajiaa
/- Walks: the program's pieces from every corner to a point. Conditions: a valid room. -/
namespace Go.Proofs.Ytkifapcegiajiaa
open Go.RowKit
set_option linter.unusedVariables false

/-- What the rounds of the search keep: k nodes have been taken from the queues. -/
def RndP (A : Option Addr) (c : Nat) (L : List T2) (p q : T2) (w : World) (F : List T2) (gn on_ cn gd k : Nat) (qv lv : Value) (wr : World) : Prop :=
  ∃ gq oq cq gl ol cl, k ≤ (bG L F q k).length ∧ qv = .slice (some ⟨gq, oq, none⟩) ((bG L F q k).length - k) cq ∧ lv = .slice (some ⟨gl, ol, none⟩) ((bG L F q k).length - k) cl ∧
    PT A c L p q w F gn on_ cn gd (dC F q (bG L F q k)) gq oq cq ((bG L F q k).length - k) (qx F q ((bG L F q k).drop k)) gl ol cl (qd ((bG L F q k).drop k)) wr
theorem bG_len (L F : List T2) (q : T2) (k : Nat) : (bG L F q k).length ≤ F.length + 1 := bfs_len (by omega) k
set_option maxHeartbeats 1600000 in
set_option maxRecDepth 100000 in
theorem piecesTo_any (A : Option Addr) (n c : Nat) (L : List T2) (p q : T2) (w : World) (hl : Row w A (L.flatMap T2.v)) (hn : L.length = n) (hro : roomS L = true) (hp : pokT p = true) (hq : pokT q = true) :
    Calls Try.prog 38 #[.agg #[.slice A n c], ptV p, ptV q] w fun en w' => ∃ g d, en = .returned (.tuple #[.slice (some ⟨g, 0, none⟩) n d, .int .i64 (distF L (L ++ [p]) q n)]) ∧ w'.ownsRow w.heap.size 3 1 (.slice (some ⟨g, 0, none⟩) n d) n ((List.range n).map fun v => .int .i64 (distF L (L ++ [p]) q v)) ∧ Ext w w' := by
  subst hn
  have hr := roomP_of hro
  have hn10 : L.length ≤ 10 := hr.hi
  have HNO := hid (show A = none → c = 0 from fun h => by
    subst h
    obtain ⟨_, _, hA, _⟩ := hl.t2 (i := 0) (by have := hr.lo; omega)
    cases hA)
  have HP := hid (And.intro hp hq)
  have HSE := hid (fun a b w' (h : Row w' A (L.flatMap T2.v)) ha hb => sees_any A L.length c L a b w' h rfl hro ha hb)
  have HL := hid hl
  have HRP := hid hr
  clear hl hp hq hr
  unfold ptV at *
  have HC0 := hid (show Cw A L.length c q w (((w.alloc (.cells #[.slice A L.length c] 33)).alloc (.cells #[.int .i64 p.a, .int .i64 p.b] 35)).alloc (.cells #[.int .i64 q.a, .int .i64 q.b] 35)) p from ⟨by repeat (first | exact Ext.refl _ | refine Ext.alloc ?_ _ | assumption | refine Ext.over ?_ _ | refine Ext.drew ?_ | refine Ext.drewN ?_ _), by go_simp, ⟨by go_simp, by go_simp, by go_simp, by go_simp⟩, by go_simp, by go_simp⟩)
  go_enter Try.func38, Try.ntmps38
  go_wp2_with fail
  apply two_ways
  case h =>
    intro KEY
    replace KEY := hid KEY
    refine wp_region_x [.q 0, .q 1, .q 3, .s 2 4, .u 5, .u 6] (by kernel_rfl) (by kernel_rfl) (fun w1 e1 => ?_)
    have HC1 := hid (HC0.out.ext e1)
    have r0 := HC1.out.rb
    have p0 := HC1.out.pb.1
    have p1 := HC1.out.pb.2.1
    clear e1
    simp only [pick, List.getElem?_cons_succ, List.getElem?_cons_zero]
    repeat (refine wpZ_q (fun K hK => ?_); go_simp; refine hK _ ?_; clear hK K)
    refine wpZ_s ?_ ?_
    · refine stepH_of (fun K hK => ?_)
      go_simp
      refine (copyPoints_any A L.length c L w1 (HL.out.ext HC1.out.E) rfl (by omega) HNO.out).mono ?_
      rintro _ w3 ⟨A', c1, rfl, ho, he3⟩
      refine ⟨_, rfl, hK _ _ he3 ?_⟩; clear hK K
      refine stepH_of (fun K hK => ?_)
      go_simp
      refine hK _ _ (Below.alloc (Below.refl _ _) he3.size _) ?_; clear hK K
      have HO4 := hid (own_ext ho (show Ext w3 (w3.alloc (.cells #[.int .i64 p.a, .int .i64 p.b] 35)) by repeat (first | exact Ext.refl _ | refine Ext.alloc ?_ _ | assumption | refine Ext.over ?_ _ | refine Ext.drew ?_ | refine Ext.drewN ?_ _)))
      have E4 := hid (show Ext w1 (w3.alloc (.cells #[.int .i64 p.a, .int .i64 p.b] 35)) from he3.trans (by repeat (first | exact Ext.refl _ | refine Ext.alloc ?_ _ | assumption | refine Ext.over ?_ _ | refine Ext.drew ?_ | refine Ext.drewN ?_ _)))
      have HC4 := hid (lit_cells w3 w3.heap.size rfl [.int .i64 p.a, .int .i64 p.b] 35)
      clear ho he3
      refine wpZ_u ?_
      refine stepH_of (fun K hK => ?_)
      rw [if_pos (by rfl)]
      refine her_push w1 (.tmp 19) (.tmp 21) 31 rfl 35 Try.underlying31 info_PointC rfl (by decide) _ L.length (L.flatMap T2.v) rfl HO4.out E4.out _ 1 1 [.int .i64 p.a, .int .i64 p.b] rfl rfl HC4.out (by intro u hu; simp at hu; rcases hu with rfl | rfl <;> rfl) (by omega) (by omega) (by decide) ?_
      intro g cap w5 ho5 he5 hg5
      refine hK _ _ (grown_below hg5 HO4.out (Nat.le_refl _) E4.out.size) ?_; clear hK K
      have HC5 := hid (HC1.out.ext he5)
      have HN5 := hid (show QB (w.heap.size + 3) 35 w5 (some ⟨g, 0, none⟩) (L ++ [p]).length cap ((L ++ [p]).flatMap T2.v) by
        rw [List.length_append, List.flatMap_append]
        exact own_wholeB (own_base ho5 HC1.out.size) (by simp))
      clear ho5 he5 hg5 HO4 E4 HC4 HC1 r0 p0 p1
      ((first | refine wpZ_u ?_ | skip); refine stepH_of (fun K hK => ?_); go_simp; refine hK _ _ (Below.refl _ _) ?_; clear hK K)
      refine wpZ_nil ?_
      generalize w3.heap.size = gp at *
      have F := And.intro HC5 HN5
      clear HC5 HN5
      revert F
      revert w5
      revert cap
      revert g
      revert c1
      revert A'
      revert gp
      exact KEY.out
    · refine stepH_of (fun K hK => ?_)
      go_simp
      refine hK _ _ (Below.alloc (Below.refl _ _) (Nat.le_refl _) _) ?_; clear hK K
      obtain ⟨w2, hw2⟩ : ∃ w2, w2 = w1.alloc (.cells #[.int .i64 p.a, .int .i64 p.b] 35) := ⟨_, rfl⟩
      have e2 : Ext w1 w2 := by rw [hw2]; repeat (first | exact Ext.refl _ | refine Ext.alloc ?_ _ | assumption | refine Ext.over ?_ _ | refine Ext.drew ?_ | refine Ext.drewN ?_ _)
      have HC2 := hid (show ∀ j u, [Value.int .i64 p.a, Value.int .i64 p.b][j]? = some u → w2.cell? ((⟨w1.heap.size, 0, none⟩ : Addr).add j) = some u by rw [hw2]; exact lit_cells w1 w1.heap.size rfl [.int .i64 p.a, .int .i64 p.b] 35)
      rw [← hw2]
      clear hw2
      refine stepH_of (fun K hK => ?_)
      go_simp
      refine (copyPoints_any A L.length c L w2 (HL.out.ext (HC1.out.E.trans e2)) rfl (by omega) HNO.out).mono ?_
      rintro _ w3 ⟨A', c1, rfl, ho, he3⟩
      refine ⟨_, rfl, hK _ _ (ext_below he3 e2.size) ?_⟩; clear hK K
      have HO4 := hid (own_base (base' := w1.heap.size) ho e2.size)
      have E4 := hid (e2.trans he3)
      have HC4 := hid (show ∀ j u, [Value.int .i64 p.a, Value.int .i64 p.b][j]? = some u → w3.cell? ((⟨w1.heap.size, 0, none⟩ : Addr).add j) = some u from fun j u hu => old_cell he3 (HC2.out j u hu))
      clear ho he3 e2 HC2
      refine wpZ_u ?_
      refine stepH_of (fun K hK => ?_)
      rw [if_pos (by rfl)]
      refine her_push w1 (.tmp 19) (.tmp 21) 31 rfl 35 Try.underlying31 info_PointC rfl (by decide) _ L.length (L.flatMap T2.v) rfl HO4.out E4.out _ 1 1 [.int .i64 p.a, .int .i64 p.b] rfl rfl HC4.out (by intro u hu; simp at hu; rcases hu with rfl | rfl <;> rfl) (by omega) (by omega) (by decide) ?_
      intro g cap w5 ho5 he5 hg5
      refine hK _ _ (grown_below hg5 HO4.out (Nat.le_refl _) E4.out.size) ?_; clear hK K
      have HC5 := hid (HC1.out.ext he5)
      have HN5 := hid (show QB (w.heap.size + 3) 35 w5 (some ⟨g, 0, none⟩) (L ++ [p]).length cap ((L ++ [p]).flatMap T2.v) by
        rw [List.length_append, List.flatMap_append]
        exact own_wholeB (own_base ho5 HC1.out.size) (by simp))
      clear ho5 he5 hg5 HO4 E4 HC4 HC1 r0 p0 p1
      ((first | refine wpZ_u ?_ | skip); refine stepH_of (fun K hK => ?_); go_simp; refine hK _ _ (Below.refl _ _) ?_; clear hK K)
      refine wpZ_nil ?_
      generalize w1.heap.size = gp at *
      have F := And.intro HC5 HN5
      clear HC5 HN5
      revert F
      revert w5
      revert cap
      revert g
      revert c1
      revert A'
      revert gp
      exact KEY.out
  case p =>
    rintro gp A' c1 gn cn w5 ⟨HC5, HN5⟩
    have HC5 := hid HC5.out
    have HN5 := hid HN5.out
    clear HC0
    obtain ⟨F, hF⟩ : ∃ F, F = L ++ [p] := ⟨_, rfl⟩
    have hm : L.length + 1 = F.length := by rw [hF]; simp
    have hm11 : F.length ≤ 11 := by omega
    have hm1 : 1 ≤ F.length := by omega
    rw [← hF] at HN5
    rw [hm]
    have HF := hid hF
    have HM := hid hm
    have HPF := hid (show ∀ j, j < F.length → pokT (at2 F j) = true from fun j hj => by
      rw [hF]
      rcases Nat.lt_or_ge j L.length with h | h
      · rw [at2_app h]; exact HRP.out.pok j h
      · rw [show j = L.length by omega, at2_last]; exact HP.out.1)
    clear hF hm
    have hgn := HN5.out.at_.2.1
    have HGN := hid hgn
    clear hgn
    generalize hGA : (some (⟨gn, 0, none⟩ : Addr)) = GA at HN5 ⊢
    obtain ⟨on_, hGB⟩ : ∃ o : Nat, GA = some (⟨gn, o, none⟩ : Addr) := ⟨0, hGA.symm⟩
    clear hGA
    subst hGB
    go_wp2_with fail
    refine (Repeat_any F.length w5.heap.size 1 _ hm1 hm11 (by go_simp)).mono ?_
    rintro _ w6 ⟨gd, rfl, ho, he⟩
    have hgd := ho.lt gd rfl
    have HS6 := hid (show w5.heap.size + 1 ≤ gd ∧ gd < w6.heap.size by have := hgd.1; simp at this; exact ⟨this, hgd.2⟩)
    have HC6 := hid (HC5.out.ext (Ext.trans (by repeat (first | exact Ext.refl _ | refine Ext.alloc ?_ _ | assumption | refine Ext.over ?_ _ | refine Ext.drew ?_ | refine Ext.drewN ?_ _)) he))
    have HN6 := hid (HN5.out.ext (Ext.trans (by repeat (first | exact Ext.refl _ | refine Ext.alloc ?_ _ | assumption | refine Ext.over ?_ _ | refine Ext.drew ?_ | refine Ext.drewN ?_ _)) he))
    have HD6 := hid (own_base (base' := w.heap.size + 3) ho (by have := HC5.out.size; simp; omega))
    clear ho he hgd HC5 HN5
    have q0 := HC6.out.q0
    have q1 := HC6.out.q1
    go_wp2_with fail
    have HT7 := hid (show PT A c L p q w F gn on_ cn gd (d0C F q 0) w6.heap.size 0 1 1 [q] (w6.heap.size + 1) 0 1 [0] ((w6.alloc (.cells #[.int .i64 q.a, .int .i64 q.b] 35)).alloc (.cells #[.int .i64 0] 3)) from by
      have hw := HC6.out.size
      have h1 := World.ownsRow_lit (base := w6.heap.size) (e := 35) (size := 2) w6 #[.int .i64 q.a, .int .i64 q.b] 1 (by simp) (by decide) rfl
      have h2 := World.ownsRow_lit (base := w6.heap.size + 1) (e := 3) (size := 1) (w6.alloc (.cells #[.int .i64 q.a, .int .i64 q.b] 35)) #[.int .i64 0] 1 (by simp) (by decide) rfl
      have hn := HGN.out
      have hs := HS6.out
      refine ⟨HC6.out.ext (by repeat (first | exact Ext.refl _ | refine Ext.alloc ?_ _ | assumption | refine Ext.over ?_ _ | refine Ext.drew ?_ | refine Ext.drewN ?_ _)), HN6.out.ext (by repeat (first | exact Ext.refl _ | refine Ext.alloc ?_ _ | assumption | refine Ext.over ?_ _ | refine Ext.drew ?_ | refine Ext.drewN ?_ _)), own_ext (by rw [d0C_zero]; exact HD6.out) (by repeat (first | exact Ext.refl _ | refine Ext.alloc ?_ _ | assumption | refine Ext.over ?_ _ | refine Ext.drew ?_ | refine Ext.drewN ?_ _)), (own_wholeB (own_base h1 (by omega)) (by simp)).ext (by repeat (first | exact Ext.refl _ | refine Ext.alloc ?_ _ | assumption | refine Ext.over ?_ _ | refine Ext.drew ?_ | refine Ext.drewN ?_ _)), ?_, ⟨by omega, by omega, by omega⟩, by omega, by omega, by omega⟩
      have h3 := own_whole (own_base (base' := w.heap.size + 3) h2 (by omega)) (by simp)
      simpa [vl] using h3)
    clear HC6 HN6 HD6 HS6 HGN q0 q1
    generalize ((w6.alloc (.cells #[.int .i64 q.a, .int .i64 q.b] 35)).alloc (.cells #[.int .i64 0] 3)) = w7 at HT7 ⊢
    generalize w6.heap.size + 1 = gl at HT7 ⊢
    generalize w6.heap.size = gq at HT7 ⊢
    go_loopw [32] (fun kv wr => ∃ (k : Nat), k ≤ F.length ∧ kv = .int .i64 ↑k ∧ PT A c L p q w F gn on_ cn gd (d0C F q k) gq 0 1 1 [q] gl 0 1 [0] wr) (fun kv _ => F.length - (intOf kv).toNat)
    case atStart => exact ⟨0, Nat.zero_le _, rfl, HT7.out⟩
    case round =>
      clear HT7
      obtain ⟨k, hk, rfl, hT⟩ := hrel
      have HT := hid hT
      have q0 := hT.C.q0
      have q1 := hT.C.q1
      by_cases hlt : k < F.length
      · have hkt : (k : Int) < F.length := by omega
        obtain ⟨g0, g1⟩ := hT.node hlt
        have hd0 : wr.cell? ⟨gd, k, none⟩ = some (.int .i64 (d0 F q k k)) := by rw [hT.D.cellAt k (by omega)]; exact d0C_get hlt
        have hf0 := hT.D.frozenAt k
        clear hT
        cases heq : eqP (at2 F k) q
        case true =>
          have hx := eqP_iff.1 heq
          have HE := hid (d0C_yes hlt heq)
          have e1 : ((at2 F k).a == q.a) = true := by rw [hx]; simp
          have e2 : ((at2 F k).b == q.b) = true := by rw [hx]; simp
          clear hx heq
          generalize (at2 F k).a = xa at *
          generalize (at2 F k).b = xb at *
          go_wp2_with fail
          go_roundw
          case rel => exact ⟨k + 1, by omega, by go_num, by rw [HE.out]; exact (HT.out.put k _).ext (by repeat (first | exact Ext.refl _ | refine Ext.alloc ?_ _ | assumption | refine Ext.over ?_ _ | refine Ext.drew ?_ | refine Ext.drewN ?_ _))⟩
          case measure => simp [intOf]; omega
        case false =>
          have hcase : ((at2 F k).a == q.a) = false ∨ (((at2 F k).a == q.a) = true ∧ ((at2 F k).b == q.b) = false) := by
            by_cases ha : (at2 F k).a = q.a
            · refine .inr ⟨by simpa using ha, ?_⟩
              rw [beq_eq_false_iff_ne]
              intro hb
              have h3 : at2 F k = q := by
                obtain ⟨u, hu⟩ : ∃ u, u = at2 F k := ⟨_, rfl⟩
                rw [← hu] at ha hb ⊢
                cases u; cases q; simp only at ha hb; rw [ha, hb]
              rw [eqP_iff.2 h3] at heq
              cases heq
            · exact .inl (by rw [beq_eq_false_iff_ne]; exact ha)
          have HE := hid (d0C_no heq)
          clear heq
          rcases hcase with e1 | ⟨e1, e2⟩
          all_goals
            go_wp2_with fail
            go_roundw
            case rel => exact ⟨k + 1, by omega, by go_num, by rw [HE.out]; exact HT.out.ext (by repeat (first | exact Ext.refl _ | refine Ext.alloc ?_ _ | assumption | refine Ext.over ?_ _ | refine Ext.drew ?_ | refine Ext.drewN ?_ _))⟩
            case measure => simp [intOf]; omega
      · obtain rfl : k = F.length := by omega
        have HT0 := hid hT
        clear hT HT q0 q1
        rename World => wf
        go_wp2_with fail
        go_loopw [10, 11] (fun qv lv wr => ∃ k, RndP A c L p q w F gn on_ cn gd k qv lv wr) (fun qv lv wr => least fun m => ∃ k, k ≤ F.length + 1 ∧ RndP A c L p q w F gn on_ cn gd k qv lv wr ∧ m = F.length + 1 - k)
        case atStart =>
          refine ⟨0, gq, 0, 1, gl, 0, 1, Nat.zero_le _, rfl, rfl, ?_⟩
          have h1 : qx F q ((bG L F q 0).drop 0) = [q] := by
            rw [bG_zero]; unfold qx rt; simp [at2_last]
          rw [h1, ← d0C_end]
          exact HT0.out
        case round =>
          clear HT0
          rename World => wo
          have hex : ∃ m, ∃ k, k ≤ F.length + 1 ∧ RndP A c L p q w F gn on_ cn gd k u10 u11 wo ∧ m = F.length + 1 - k := by
            obtain ⟨k, hr⟩ := hrel
            have h1 := bG_len L F q k
            obtain ⟨_, _, _, _, _, _, hk, _⟩ := id hr
            exact ⟨_, k, by omega, hr, rfl⟩
          clear hrel
          obtain ⟨hls, _⟩ := least_spec hex
          obtain ⟨k, hkn, ⟨gq, oq, cq, gl, ol, cl, hk, hq1, hq2, hT⟩, hm⟩ := hls
          subst hq1 hq2
          clear hex
          have HI := hid (bG_inv (L := L) (F := F) (q := q) k)
          have hnext := bG_next (L := L) (F := F) (q := q) (k := k)
          have hLn := bG_len L F q k
          have HDL := hid (fun z hz => depth_lt (n := F.length + 1) (adj := adjG L F q) (a := F.length) (k := k) (by omega) (x := z) hz)
          have HEND := hid (dC_end (L := L) (F := F) (q := q) (k := k))
          change Hid (∀ z, z ∈ bG L F q k → _) at HDL
          generalize hB : bG L F q k = B at hm hk hT hnext hLn HI HDL HEND ⊢
          obtain ⟨mq, hmq⟩ : ∃ mq, mq = B.length - k := ⟨_, rfl⟩
          rw [← hmq] at hT hm ⊢
          have HM2 := hid hm
          have HBB := hid hB
          clear hm hB
          by_cases hlt : k < B.length
          · have hpre := hnext hlt
            obtain ⟨y, hy⟩ : ∃ y, y = ndAt B k := ⟨_, rfl⟩
            have hdrop : B.drop k = y :: B.drop (k + 1) := by rw [hy, ndAt_eq _ _ hlt]; exact List.drop_eq_getElem_cons hlt
            have hyB : y ∈ B := by rw [hy]; exact ndAt_mem hlt
            have hyv := HI.out.lt y hyB
            have hyd := HDL.out y hyB
            rw [← hy] at hpre
            obtain ⟨yp, hyp⟩ : ∃ yp, yp = at2 (F ++ [q]) y.v := ⟨_, rfl⟩
            have hypk : pokT yp = true := by
              rw [hyp]
              rcases Nat.lt_or_ge y.v F.length with h | h
              · rw [at2_app h]; exact HPF.out _ h
              · rw [show y.v = F.length by omega, at2_last]; exact HP.out.2
            have HADJ := hid (show ∀ j, j < F.length → adjG L F q j y.v = (!isE F q j && seesS L yp (at2 F j)) from fun j hj => by
              rw [adj_val hj, ← hyp, seesS_symm HRP.out (small_pok (HPF.out j hj)) (small_pok hypk)])
            have HYP := hid hypk
            have HYE := hid hyp
            have HPRE := hid hpre
            have HDR := hid hdrop
            have HMQ := hid hmq
            have HT1 := hid hT
            have hm0 : 0 < mq := by omega
            have hyd12 : y.d ≤ 12 := by omega
            clear hT hy hyB hyv hyd hpre hdrop hmq hyp hypk hnext HI HDL HEND
            go_wp2_with fail
            rename World => wq
            go_loopw [10, 11, 53] (fun qv lv iv wr => ∃ (j gq oq cq gl ol cl : Nat), j ≤ F.length ∧ iv = .int .i64 ↑j ∧ qv = .slice (some ⟨gq, oq, none⟩) ((B ++ newsG L F q j B y).length - k) cq ∧ lv = .slice (some ⟨gl, ol, none⟩) ((B ++ newsG L F q j B y).length - k) cl ∧
              PT A c L p q w F gn on_ cn gd (dC F q (B ++ newsG L F q j B y)) gq oq cq ((B ++ newsG L F q j B y).length - k) (qx F q ((B ++ newsG L F q j B y).drop k)) gl ol cl (qd ((B ++ newsG L F q j B y).drop k)) wr) (fun _ _ iv _ => F.length - (intOf iv).toNat)
            case atStart =>
              have h0 : B ++ newsG L F q 0 B y = B := by rw [show newsG L F q 0 B y = [] from rfl, List.append_nil]
              exact ⟨0, gq, oq, cq, gl, ol, cl, Nat.zero_le _, rfl, by rw [h0, ← HMQ.out], by rw [h0, ← HMQ.out], by rw [h0, ← HMQ.out]; exact HT1.out⟩
            case round =>
              clear HT1
              obtain ⟨j, gq, oq, cq, gl, ol, cl, hj, rfl, rfl, rfl, hT⟩ := hrel
              obtain ⟨M, hM⟩ : ∃ M, M = B ++ newsG L F q j B y := ⟨_, rfl⟩
              have hnst : newsG L F q (j + 1) B y = newsG L F q j B y ++ if (!seenIn B j && adjG L F q j y.v) = true then [⟨j, y.v, y.d + 1⟩] else [] := news_step j _ B y
              have hns : seenIn M j = seenIn B j := by rw [hM]; exact news_seen j _ B y
              have hMr : M.drop k = y :: (B.drop (k + 1) ++ newsG L F q j B y) := by rw [hM, List.drop_append_of_le_length hk, HDR.out]; rfl
              have hMl : M.length ≤ 24 := by
                have h2 : (newsG L F q j B y).length ≤ j := news_len j _ B y
                rw [hM, List.length_append]; omega
              have hMk : k < M.length := by rw [hM, List.length_append]; omega
              rw [← hM] at hT ⊢
              have HMM := hid hM
              obtain ⟨mj, hmj⟩ : ∃ mj, mj = M.length - k := ⟨_, rfl⟩
              have hmj0 : 0 < mj := by omega
              have hmj24 : mj ≤ 24 := by omega
              rw [← hmj] at hT ⊢
              obtain ⟨rest, hrest⟩ : ∃ rest, M.drop k = y :: rest := ⟨_, hMr⟩
              have hfirst : (wr.cell? ⟨gq, oq, none⟩ = some (.int .i64 yp.a) ∧ wr.cell? ⟨gq, oq + 1, none⟩ = some (.int .i64 yp.b)) ∧ wr.cell? ⟨gl, ol, none⟩ = some (.int .i64 (y.d : Int)) := by
                have h := hT
                rw [hrest] at h
                rw [HYE.out]
                exact PT.first (x := at2 (F ++ [q]) y.v) (d := y.d) (xs := qx F q rest) (ds := qd rest) h
              have HT := hid hT
              have HRE := hid hrest
              have HMJ := hid hmj
              have r0 := hT.C.rb
              obtain ⟨⟨z0, z1⟩, z2⟩ := hfirst
              clear hM hMr hmj hrest
              by_cases hjt : j < F.length
              · have hjt' : (j : Int) < F.length := by omega
                have hadj := HADJ.out j hjt
                obtain ⟨g0, g1⟩ := hT.node hjt
                have c2 : wr.cell? ⟨gd, j, none⟩ = some (.int .i64 (dv F q M j)) := by rw [hT.D.cellAt j (by omega)]; exact dC_get hjt
                have HRW := hid (HL.out.ext hT.C.E)
                have HPJ := hid (HPF.out j hjt)
                clear hT
                by_cases hskip : isE F q j = true ∨ seenIn B j = true
                · have HM' := hid (show B ++ newsG L F q (j + 1) B y = M by
                    rw [hnst, HMM.out, hadj]
                    rcases hskip with h | h <;> simp [h])
                  obtain ⟨dz, hdz, hdd⟩ : ∃ dz : Int, decide (dz < 0) = false ∧ dv F q M j = dz := by
                    unfold dv
                    rcases hskip with h | h
                    · exact ⟨0, by simp, by rw [h]; rfl⟩
                    · obtain ⟨dd, hdd⟩ := distOf_seen (hns.trans h)
                      cases h2 : isE F q j
                      · exact ⟨dd, by simp, by rw [hdd]; rfl⟩
                      · exact ⟨0, by simp, rfl⟩
                  rw [hdd] at c2
                  clear hnst hns hskip hdd hadj HADJ
                  go_wp2_with fail
                  (refine wp_region_calm (by kernel_rfl) (by kernel_rfl) ?_; (repeat (go_big_quiet_step (fail))); refine wpQuiet_nil ?_; rintro w1 ⟨x1, rfl⟩)
                  go_wp2_with fail
                  go_roundw
                  case rel => exact ⟨j + 1, gq, oq, cq, gl, ol, cl, by omega, by go_num, by rw [HM'.out, ← HMJ.out], by rw [HM'.out, ← HMJ.out], by rw [HM'.out, ← HMJ.out]; exact HT.out.ext (by repeat (first | exact Ext.refl _ | refine Ext.alloc ?_ _ | assumption | refine Ext.over ?_ _ | refine Ext.drew ?_ | refine Ext.drewN ?_ _))⟩
                  case measure => simp [intOf]; omega
                · have he : isE F q j = false := by cases h : isE F q j; rfl; exact absurd (.inl h) hskip
                  have hs : seenIn B j = false := by cases h : seenIn B j; rfl; exact absurd (.inr h) hskip
                  have hdd : dv F q M j = -1 := by unfold dv; rw [he, if_neg (by simp), distOf_none (hns.trans hs)]
                  rw [hdd] at c2
                  cases hse : seesS L yp (at2 F j)
                  · have HM' := hid (show B ++ newsG L F q (j + 1) B y = M by rw [hnst, HMM.out, hadj, hse]; simp)
                    clear hnst hns hskip hdd hadj HADJ
                    go_wp2_with fail
                    (refine wp_region_calm (by kernel_rfl) (by kernel_rfl) ?_; (repeat (go_big_quiet_step ((go_at_call 39; exact (gives_b hse (HSE.out yp (at2 F j) _ (HRW.out.ext (by repeat (first | exact Ext.refl _ | refine Ext.alloc ?_ _ | assumption | refine Ext.over ?_ _ | refine Ext.drew ?_ | refine Ext.drewN ?_ _))) HYP.out HPJ.out)).calm)))); refine wpQuiet_nil ?_; rintro w1 ⟨x1, rfl⟩)
                    go_wp2_with fail
                    go_roundw
                    case rel => exact ⟨j + 1, gq, oq, cq, gl, ol, cl, by omega, by go_num, by rw [HM'.out, ← HMJ.out], by rw [HM'.out, ← HMJ.out], by rw [HM'.out, ← HMJ.out]; exact HT.out.ext (by repeat (first | exact Ext.refl _ | refine Ext.alloc ?_ _ | assumption | refine Ext.over ?_ _ | refine Ext.drew ?_ | refine Ext.drewN ?_ _))⟩
                    case measure => simp [intOf]; omega
                  · have HM' := hid (show B ++ newsG L F q (j + 1) B y = M ++ [⟨j, y.v, y.d + 1⟩] by rw [hnst, HMM.out, hadj, hse, he, hs]; simp)
                    have HCAST := hid (show ((y.d + 1 : Nat) : Int) = (y.d : Int) + 1 by omega)
                    have HDC := hid (show dC F q (M ++ [⟨j, y.v, y.d + 1⟩]) = (dC F q M).set j (.int .i64 ((y.d : Int) + 1)) by
                      have h := dC_snoc (F := F) (q := q) (B := M) (x := ⟨j, y.v, y.d + 1⟩) (hns.trans hs) he
                      rw [h]
                      show (dC F q M).set j (.int .i64 ((y.d + 1 : Nat) : Int)) = _
                      rw [HCAST.out])
                    have HLEN := hid (show (M ++ [(⟨j, y.v, y.d + 1⟩ : Nd)]).length - k = mj + 1 by rw [List.length_append, HMJ.out]; simp; omega)
                    have HQX := hid (show qx F q ((M ++ [(⟨j, y.v, y.d + 1⟩ : Nd)]).drop k) = qx F q (M.drop k) ++ [at2 F j] by
                      rw [List.drop_append_of_le_length (by omega)]; unfold qx; rw [List.map_append]; simp [at2_app hjt])
                    have HQD := hid (show qd ((M ++ [(⟨j, y.v, y.d + 1⟩ : Nd)]).drop k) = qd (M.drop k) ++ [y.d + 1] by
                      rw [List.drop_append_of_le_length (by omega)]; unfold qd; rw [List.map_append]; rfl)
                    clear hnst hns hskip hdd hadj HADJ
                    go_wp2_with fail
                    (refine wp_region_calm (by kernel_rfl) (by kernel_rfl) ?_; (repeat (go_big_quiet_step ((go_at_call 39; exact (gives_b hse (HSE.out yp (at2 F j) _ (HRW.out.ext (by repeat (first | exact Ext.refl _ | refine Ext.alloc ?_ _ | assumption | refine Ext.over ?_ _ | refine Ext.drew ?_ | refine Ext.drewN ?_ _))) HYP.out HPJ.out)).calm)))); refine wpQuiet_nil ?_; rintro w1 ⟨x1, rfl⟩)
                    have HT2 := hid (HT.out.ext (show Ext wr (ovr (wr.alloc (.cells #[.int .i64 (at2 F j).a, .int .i64 (at2 F j).b] 35)) x1) by repeat (first | exact Ext.refl _ | refine Ext.alloc ?_ _ | assumption | refine Ext.over ?_ _ | refine Ext.drew ?_ | refine Ext.drewN ?_ _)))
                    have xb0 : (ovr (wr.alloc (.cells #[.int .i64 (at2 F j).a, .int .i64 (at2 F j).b] 35)) x1).cell? ⟨wr.heap.size, 0, none⟩ = some (.int .i64 (at2 F j).a) := by go_simp
                    have xb1 : (ovr (wr.alloc (.cells #[.int .i64 (at2 F j).a, .int .i64 (at2 F j).b] 35)) x1).cell? ⟨wr.heap.size, 1, none⟩ = some (.int .i64 (at2 F j).b) := by go_simp
                    have hxs : wr.heap.size < (ovr (wr.alloc (.cells #[.int .i64 (at2 F j).a, .int .i64 (at2 F j).b] 35)) x1).heap.size := World.block_lt_of_cell? _ _ xb0
                    have hgdx : gd < wr.heap.size := (HT.out.D.lt gd rfl).2
                    have hglx : gl < wr.heap.size := HT.out.S.lo.2.1
                    have HGX := hid (show ¬ wr.heap.size = gq by have := HT.out.Q.at_.2.1; omega)
                    clear z0 z1 z2 c2 g0 g1 r0 HT
                    generalize ovr (wr.alloc (.cells #[.int .i64 (at2 F j).a, .int .i64 (at2 F j).b] 35)) x1 = wv at *
                    generalize wr.heap.size = gx at *
                    have z2 : wv.cell? ⟨gl, ol, none⟩ = some (.int .i64 (y.d : Int)) := by
                      have h := HT2.out
                      rw [HRE.out] at h
                      exact (PT.first (x := at2 (F ++ [q]) y.v) (d := y.d) (xs := qx F q rest) (ds := qd rest) h).2
                    have c2 : wv.cell? ⟨gd, j, none⟩ = some (.int .i64 (dv F q M j)) := by rw [HT2.out.D.cellAt j (by omega)]; exact dC_get hjt
                    have f2 := HT2.out.D.frozenAt j
                    have HT3 := hid (HT2.out.put j (.int .i64 ((y.d : Int) + 1)))
                    have HSZ := hid HT3.out.C.size
                    have HCV := hid (show ((dC F q M).set j (.int .i64 ((y.d : Int) + 1)))[j]? = some (.int .i64 ((y.d : Int) + 1)) from List.getElem?_set_self (by rw [dC_len]; exact hjt))
                    clear HT2
                    go_wp2_with (at_builtin; refine wpList_pushB rfl (.tmp 78) (.tmp 80) 31 rfl 35 Try.underlying31 info_PointC rfl (w.heap.size + 3) gq oq mj cq _ rfl (wv.setCell ⟨gd, j, none⟩ (.int .i64 ((y.d : Int) + 1))) HT3.out.Q (by repeat (first | exact Ext.refl _ | refine Ext.alloc ?_ _ | assumption | refine Ext.over ?_ _ | refine Ext.drew ?_ | refine Ext.drewN ?_ _)) HSZ.out _ 1 (.int .i64 (at2 F j).a) (.int .i64 (at2 F j).b) rfl (lit_cells _ _ (by first | (simp; done) | simp [ovr_size]) _ _) rfl rfl (by omega) (by decide) ?_)
                    intro g2 o2 c5 w3 hQ4 hgr hgg
                    have HQ4 := hid hQ4
                    have HG4 := hid hgr
                    have HN4 := hid (show g2 = gq ∨ (wv.setCell ⟨gd, j, none⟩ (.int .i64 ((y.d : Int) + 1))).heap.size ≤ g2 by rw [World.size_setCell]; exact hgg)
                    obtain ⟨⟨k1, k2⟩, ⟨k3, k4⟩, k5⟩ := HT3.out.pushQ (ys := qx F q (M.drop k) ++ [at2 F j]) (by rw [List.flatMap_append]; exact hQ4) hgr HN4.out
                    have HS4 := hid k4
                    have HZ4 := hid k1.size
                    have d2 : w3.cell? ⟨gd, j, none⟩ = some (.int .i64 ((y.d : Int) + 1)) := by rw [k3.cellAt j (by omega)]; exact HCV.out
                    clear hQ4 hgr hgg k1 k2 k3 k4 k5 c2 f2 z2 xb0 xb1
                    go_wp2_with (at_builtin; refine wpList_pushQ rfl (.tmp 82) (.tmp 87) 28 rfl 3 Try.underlying28 info_intP rfl (w.heap.size + 3) gl ol mj cl _ rfl w3 HS4.out (by repeat (first | exact Ext.refl _ | refine Ext.alloc ?_ _ | assumption | refine Ext.over ?_ _ | refine Ext.drew ?_ | refine Ext.drewN ?_ _)) HZ4.out _ 1 (.int .i64 ((y.d : Int) + 1)) rfl (lit_cells _ _ (by first | (simp; done) | simp [ovr_size]) _ _) rfl (by omega) (by decide) ?_)
                    intro g3 o3 c6 w4 hS5 hgr5 hgg5
                    have HT5 := hid (PT.push HT3.out HQ4.out HG4.out HN4.out (d := y.d + 1) (by rw [HCAST.out]; exact hS5) hgr5 hgg5)
                    clear hS5 hgr5 hgg5 HQ4 HG4 HN4 HS4 HZ4 d2 HT3
                    go_wp2_with fail
                    go_roundw
                    case rel => exact ⟨j + 1, g2, o2, c5, g3, o3, c6, by omega, by go_num, by rw [HM'.out, HLEN.out], by rw [HM'.out, HLEN.out], by rw [HM'.out, HLEN.out, HDC.out, HQX.out, HQD.out]; exact HT5.out.ext (by repeat (first | exact Ext.refl _ | refine Ext.alloc ?_ _ | assumption | refine Ext.over ?_ _ | refine Ext.drew ?_ | refine Ext.drewN ?_ _))⟩
                    case measure => simp [intOf]; omega
              · obtain rfl : j = F.length := by omega
                have hMB : bG L F q (k + 1) = M := by rw [HMM.out, HPRE.out]
                have hdr : M.drop (k + 1) = rest := by
                  have : M.drop (k + 1) = (M.drop k).tail := by rw [List.tail_drop]
                  rw [this, HRE.out]; rfl
                have hcq := hT.Q.cap
                have hcl := hT.S.cap
                have HRN := hid (show ∀ Bq Bl wz, (Bq = some ⟨gq, oq + 2, none⟩ ∨ cq = 1 ∧ Bq = some ⟨gq, oq, none⟩) → (Bl = some ⟨gl, ol + 1, none⟩ ∨ cl = 1 ∧ Bl = some ⟨gl, ol, none⟩) → Ext wr wz → RndP A c L p q w F gn on_ cn gd (k + 1) (.slice Bq (mj - 1) (cq - 1)) (.slice Bl (mj - 1) (cl - 1)) wz from fun Bq Bl wz h1 h2 e => by
                  have h3 := HT.out
                  have h4 : mj = (mj - 1) + 1 := by omega
                  rw [h4, HRE.out] at h3
                  obtain ⟨o1, o2, rfl, rfl, h5⟩ := PT.tail (x := at2 (F ++ [q]) y.v) (d := y.d) (xs := qx F q rest) (ds := qd rest) h3 h1 h2
                  have h6 : M.length - (k + 1) = mj - 1 := by rw [HMJ.out]; omega
                  exact ⟨gq, o1, cq - 1, gl, o2, cl - 1, by rw [hMB]; omega, by rw [hMB, h6], by rw [hMB, h6], by rw [hMB, h6, hdr]; exact h5.ext e⟩)
                have HLE := hid (show ∀ qv lv wz, RndP A c L p q w F gn on_ cn gd (k + 1) qv lv wz → (least fun m => ∃ k, k ≤ F.length + 1 ∧ RndP A c L p q w F gn on_ cn gd k qv lv wz ∧ m = F.length + 1 - k) < F.length + 1 - k from fun qv lv wz hv => by
                  have := (least_spec (p := fun m => ∃ k, k ≤ F.length + 1 ∧ RndP A c L p q w F gn on_ cn gd k qv lv wz ∧ m = F.length + 1 - k) ⟨_, k + 1, by omega, hv, rfl⟩).2 _ ⟨k + 1, by omega, hv, rfl⟩
                  omega)
                have h1t : (1 : Int) ≤ mj := by omega
                clear hT hnst hns hMB hdr hMk hMl z0 z1 z2 r0 HADJ
                by_cases hc1 : cq = 1
                · by_cases hc2 : cl = 1
                  · obtain rfl : mj = 1 := by omega
                    subst hc1 hc2
                    have HR1 := hid (fun wz e => HRN.out (some ⟨gq, oq, none⟩) (some ⟨gl, ol, none⟩) wz (.inr ⟨rfl, rfl⟩) (.inr ⟨rfl, rfl⟩) e)
                    clear HRN
                    go_wp2_with fail
                    (refine wp_region_calm (by kernel_rfl) (by kernel_rfl) ?_; (repeat (go_big_quiet_step (fail))); refine wpQuiet_nil ?_; rintro w1 ⟨x1, rfl⟩)
                    have HR2 := hid (HR1.out (ovr wr x1) (Ext.over (Ext.refl _) _))
                    have HL2 := hid (HLE.out _ _ _ HR2.out)
                    have hm2 := HM2.out
                    rw [← HM2.out] at HL2
                    clear hm2
                    go_wp2_with fail
                    go_roundw
                    case rel => exact ⟨k + 1, HR2.out⟩
                    case measure => exact HL2.out
                  · obtain rfl : mj = 1 := by omega
                    subst hc1
                    have HR1 := hid (fun wz e => HRN.out (some ⟨gq, oq, none⟩) (some ⟨gl, ol + 1, none⟩) wz (.inr ⟨rfl, rfl⟩) (.inl rfl) e)
                    clear HRN
                    go_wp2_with fail
                    (refine wp_region_calm (by kernel_rfl) (by kernel_rfl) ?_; (repeat (go_big_quiet_step (fail))); refine wpQuiet_nil ?_; rintro w1 ⟨x1, rfl⟩)
                    have HR2 := hid (HR1.out (ovr wr x1) (Ext.over (Ext.refl _) _))
                    have HL2 := hid (HLE.out _ _ _ HR2.out)
                    have hm2 := HM2.out
                    rw [← HM2.out] at HL2
                    clear hm2
                    go_wp2_with fail
                    go_roundw
                    case rel => exact ⟨k + 1, HR2.out⟩
                    case measure => exact HL2.out
                · by_cases hc2 : cl = 1
                  · obtain rfl : mj = 1 := by omega
                    subst hc2
                    have HR1 := hid (fun wz e => HRN.out (some ⟨gq, oq + 2, none⟩) (some ⟨gl, ol, none⟩) wz (.inl rfl) (.inr ⟨rfl, rfl⟩) e)
                    clear HRN
                    go_wp2_with fail
                    (refine wp_region_calm (by kernel_rfl) (by kernel_rfl) ?_; (repeat (go_big_quiet_step (fail))); refine wpQuiet_nil ?_; rintro w1 ⟨x1, rfl⟩)
                    have HR2 := hid (HR1.out (ovr wr x1) (Ext.over (Ext.refl _) _))
                    have HL2 := hid (HLE.out _ _ _ HR2.out)
                    have hm2 := HM2.out
                    rw [← HM2.out] at HL2
                    clear hm2
                    go_wp2_with fail
                    go_roundw
                    case rel => exact ⟨k + 1, HR2.out⟩
                    case measure => exact HL2.out
                  ·
                    have HR1 := hid (fun wz e => HRN.out (some ⟨gq, oq + 2, none⟩) (some ⟨gl, ol + 1, none⟩) wz (.inl rfl) (.inl rfl) e)
                    clear HRN
                    go_wp2_with fail
                    (refine wp_region_calm (by kernel_rfl) (by kernel_rfl) ?_; (repeat (go_big_quiet_step (fail))); refine wpQuiet_nil ?_; rintro w1 ⟨x1, rfl⟩)
                    have HR2 := hid (HR1.out (ovr wr x1) (Ext.over (Ext.refl _) _))
                    have HL2 := hid (HLE.out _ _ _ HR2.out)
                    have hm2 := HM2.out
                    rw [← HM2.out] at HL2
                    clear hm2
                    go_wp2_with fail
                    go_roundw
                    case rel => exact ⟨k + 1, HR2.out⟩
                    case measure => exact HL2.out
          · have hmq0 : mq = 0 := by omega
            have hend := HEND.out (by omega)
            have hdn : wo.cell? ⟨gd, L.length, none⟩ = some (.int .i64 (distF L F q L.length)) := by
              have := HM.out
              rw [hT.D.cellAt L.length (by omega), hend, List.getElem?_map, List.getElem?_range (by omega)]
              rfl
            have hlf : L.length ≤ F.length := by have := HM.out; omega
            have hlt2 : (L.length : Int) < F.length := by have := HM.out; omega
            have r0 := hT.C.rb
            have HT9 := hid hT
            have HEN := hid hend
            have HTK := hid (show ((List.range F.length).map fun v => Value.int .i64 (distF L F q v)).take L.length = (List.range L.length).map fun v => Value.int .i64 (distF L F q v) by
              rw [← List.map_take, List.take_range, Nat.min_eq_left hlf])
            clear hT hend hmq hnext HI HDL HEND HM2
            subst hmq0
            go_wp2_with fail
            (refine wp_region_calm (by kernel_rfl) (by kernel_rfl) ?_; (repeat (go_big_quiet_step (fail))); refine wpQuiet_nil ?_; rintro w1 ⟨x1, rfl⟩)
            go_wp2_with fail
            go_ret2
            refine ⟨gd, F.length, ?_, ?_, HT9.out.C.E.trans (Ext.over (Ext.refl _) _)⟩
            · rw [← HF.out]; rfl
            · rw [← HF.out, ← HTK.out, ← HEN.out]
              exact own_base (own_ext (own_part HT9.out.D hlf) (Ext.over (Ext.refl _) _)) (by omega)
end Go.Proofs.Ytkifapcegiajiaa
/- Walks: the program's way along corners. Conditions: sizes. -/
namespace Go.Proofs.Ytkifapcegiajiaa
open Go.RowKit
set_option linter.unusedVariables false

theorem two_rowP (w : World) (g : Nat) (hg : g = w.heap.size) (a b c d : Int) (t : TypeId) : Row (w.alloc (.cells #[.int .i64 a, .int .i64 b, .int .i64 c, .int .i64 d] t)) (some ⟨g, 0, none⟩) (([⟨a, b⟩, ⟨c, d⟩] : List T2).flatMap T2.v) :=
  Row.lit w g hg [.int .i64 a, .int .i64 b, .int .i64 c, .int .i64 d] t
theorem allIn_two (L : List T2) (p q : T2) : allIn L [p, q] = (isIn L p && isIn L q) := by
  rw [isIn_val, isIn_val]
  have : insI L [p, q] = ((pokT p && !(placeI L p == 0)) && (pokT q && !(placeI L q == 0))) := by
    unfold insI allN
    rw [show [p, q].length = 2 from rfl, show List.range 2 = [0, 1] from rfl]
    simp only [List.all_cons, List.all_nil, Bool.and_true]
    rfl
  unfold allIn
  rw [this]
  cases roomS L <;> cases pokT p <;> cases pokT q <;> cases (placeI L p == 0) <;> cases (placeI L q == 0) <;> rfl
theorem own_nilC (w : World) (base : Nat) (e : TypeId) (size : Nat) : w.ownsRow base e size (.slice none 0 0) 0 [] := ⟨by simp, .inl ⟨rfl, rfl⟩⟩
theorem Two.kept {w w' : World} {b : Nat} {x y : Int} {row : Option Nat} (h : Two w b x y) (hg : w.grownBy w' row) (hne : row ≠ some b) : Two w' b x y := by
  obtain ⟨p0, p1, f0, f1⟩ := h
  have hb : w'.heap[b]? = w.heap[b]? := hg.block b (World.block_lt_of_cell? w _ p0) (fun e => hne e.symm)
  exact ⟨(World.cell?_of_block hb).trans p0, (World.cell?_of_block hb).trans p1, (World.frozen?_of_block hb).trans f0, (World.frozen?_of_block hb).trans f1⟩
theorem Two.lt {w : World} {b : Nat} {x y : Int} (h : Two w b x y) : b < w.heap.size := World.block_lt_of_cell? w _ h.1
/-- What the way along corners keeps: the room's box, the numbers, the point where one stands, the list. -/
structure CI (A : Option Addr) (n c : Nat) (w : World) (gd dd : Nat) (ds : List Value) (gb : Nat) (a : T2) (A' : Option Addr) (m' c' : Nat) (l : List Nat) (wr : World) : Prop where
  E : Ext w wr
  rb : wr.cell? ⟨w.heap.size, 0, none⟩ = some (.slice A n c)
  D : wr.ownsRow (w.heap.size + 1) 3 1 (.slice (some ⟨gd, 0, none⟩) n dd) n ds
  P : Two wr gb a.a a.b
  O : wr.ownsRow (w.heap.size + 1) 3 1 (.slice A' m' c') m' (vl l)
  lo : w.heap.size < gb
  ne : (Value.slice A' m' c').ownBlock ≠ some gb ∧ (Value.slice A' m' c').ownBlock ≠ some gd ∧ gd ≠ gb
section
variable {A : Option Addr} {n c : Nat} {w : World} {gd dd : Nat} {ds : List Value} {gb : Nat} {a : T2} {A' : Option Addr} {m' c' : Nat} {l : List Nat} {wr : World}
theorem CI.ext (h : CI A n c w gd dd ds gb a A' m' c' l wr) {wr' : World} (e : Ext wr wr') : CI A n c w gd dd ds gb a A' m' c' l wr' :=
  ⟨h.E.trans e, old_cell e h.rb, own_ext h.D e, h.P.ext e, own_ext h.O e, h.lo, h.ne⟩
theorem CI.push (h : CI A n c w gd dd ds gb a A' m' c' l wr) {A3 : Option Addr} {m3 c3 k : Nat} {w3 : World} (ho : w3.ownsRow (w.heap.size + 1) 3 1 (.slice A3 m3 c3) m3 (vl l ++ [.int .i64 (k : Int)])) (hg : wr.grownBy w3 (Value.slice A' m' c').ownBlock)
    (hn : ∀ k, (Value.slice A3 m3 c3).ownBlock = some k → (Value.slice A' m' c').ownBlock = some k ∨ wr.heap.size ≤ k) : CI A n c w gd dd ds gb a A3 m3 c3 (l ++ [k]) w3 := by
  have hgd := (h.D.lt gd rfl).2
  have hgb := h.P.lt
  have hw := h.E.size
  have hr := World.block_lt_of_cell? wr _ h.rb
  obtain ⟨n1, n2, n3⟩ := h.ne
  have hlo : ∀ k, (Value.slice A' m' c').ownBlock = some k → w.heap.size + 1 ≤ k := fun k hk => (h.O.lt k hk).1
  refine ⟨Below.grown h.E hg hw (fun k hk => by have := hlo k hk; omega), ?_, h.D.kept hg (.inr fun e => n2 e.symm), h.P.kept hg n1, by rw [vl_snoc]; exact ho, h.lo, ?_, ?_, n3⟩
  · refine (World.cell?_of_block (hg.block _ hr ?_)).trans h.rb
    intro e
    have := hlo _ e.symm
    change w.heap.size + 1 ≤ w.heap.size at this
    omega
  · intro e
    rcases hn gb e with h1 | h1
    · exact n1 h1
    · omega
  · intro e
    rcases hn gd e with h1 | h1
    · exact n2 h1
    · omega
theorem CI.put (h : CI A n c w gd dd ds gb a A' m' c' l wr) (x : T2) : CI A n c w gd dd ds gb x A' m' c' l ((wr.setCell ⟨gb, 0, none⟩ (.int .i64 x.a)).setCell ⟨gb, 1, none⟩ (.int .i64 x.b)) := by
  obtain ⟨n1, n2, n3⟩ := h.ne
  have hlo := h.lo
  have hb : gb ≠ w.heap.size := by omega
  have hg : wr.grownBy ((wr.setCell ⟨gb, 0, none⟩ (.int .i64 x.a)).setCell ⟨gb, 1, none⟩ (.int .i64 x.b)) (some gb) := only_setCell (only_setCell (World.grownBy.refl _ _) (g := gb) (.inl rfl) _) (g := gb) (.inl rfl) _
  refine ⟨(h.E.setCell (by show w.heap.size ≤ gb; omega) _).setCell (by show w.heap.size ≤ gb; omega) _, ?_, h.D.kept hg (.inr fun e => n3 (by simpa [Value.ownBlock] using e)), h.P.put, h.O.kept hg (.inr n1), h.lo, h.ne⟩
  have hr := World.block_lt_of_cell? wr _ h.rb
  exact (World.cell?_of_block (hg.block _ hr (by intro e; injection e with e; exact hb e.symm))).trans h.rb
/-- The point's box is made anew. -/
theorem CI.box (h : CI A n c w gd dd ds gb a A' m' c' l wr) {t : TypeId} : CI A n c w gd dd ds wr.heap.size a A' m' c' l (wr.alloc (.cells #[.int .i64 a.a, .int .i64 a.b] t)) := by
  have hgd := (h.D.lt gd rfl).2
  have hgb := h.P.lt
  have hlo := h.lo
  have e : Ext wr (wr.alloc (.cells #[.int .i64 a.a, .int .i64 a.b] t)) := by repeat (first | exact Ext.refl _ | refine Ext.alloc ?_ _ | assumption | refine Ext.over ?_ _ | refine Ext.drew ?_ | refine Ext.drewN ?_ _)
  refine ⟨h.E.trans e, old_cell e h.rb, own_ext h.D e, Two.fresh, own_ext h.O e, by omega, ?_, h.ne.2.1, by omega⟩
  intro e
  have := (h.O.lt _ e).2
  omega
end
set_option maxHeartbeats 1600000 in
set_option maxRecDepth 100000 in
theorem iWay_any (A : Option Addr) (n c : Nat) (L : List T2) (p q : T2) (w : World) (hl : Row w A (L.flatMap T2.v)) (hn : L.length = n) (hx : n ≤ 1048577) :
    Calls Try.prog 10 #[.agg #[.slice A n c], ptV p, ptV q] w fun en w' => ∃ A' m' c', en = .returned (.tuple #[.slice A' m' c', .bool (isIn L p && isIn L q)]) ∧ w'.ownsRow w.heap.size 3 1 (.slice A' m' c') m' (vl (if (isIn L p && isIn L q) = true then wayI L p q else [])) ∧ Ext w w' := by
  have HIN := hid (fun B d w' (h : Row w' A (L.flatMap T2.v)) (hr : Row w' B ([p, q].flatMap T2.v)) => allIn_any A n c L B 2 d [p, q] w' h hn hx hr rfl (by omega))
  rw [allIn_two] at HIN
  have HL := hid hl
  clear hl
  unfold ptV at *
  have HROW := hid (two_rowP (((w.alloc (.cells #[.slice A n c] 33)).alloc (.cells #[.int .i64 p.a, .int .i64 p.b] 35)).alloc (.cells #[.int .i64 q.a, .int .i64 q.b] 35)) (w.heap.size + 1 + 1 + 1) (by simp) p.a p.b q.a q.b 35)
  cases hip : (isIn L p && isIn L q)
  · go_enter Try.func10, Try.ntmps10
    go_wp2_with (go_at_call 37; refine (gives_b hip (HIN.out _ 2 _ (HL.out.ext (by repeat (first | exact Ext.refl _ | refine Ext.alloc ?_ _ | assumption | refine Ext.over ?_ _ | refine Ext.drew ?_ | refine Ext.drewN ?_ _))) HROW.out)).over.mono ?_; rintro e w' ⟨rfl, xw, rfl⟩)
    go_ret2
    exact ⟨_, _, _, rfl, own_nilC _ _ _ _, by repeat (first | exact Ext.refl _ | refine Ext.alloc ?_ _ | assumption | refine Ext.over ?_ _ | refine Ext.drew ?_ | refine Ext.drewN ?_ _)⟩
  have hpq := (Bool.and_eq_true _ _).mp hip
  have hro := (isIn_room hpq.1).1
  have hpp := (isIn_room hpq.1).2
  have hqq := (isIn_room hpq.2).2
  have HSE := hid (fun a b w' (h : Row w' A (L.flatMap T2.v)) ha hb => sees_any A n c L a b w' h hn hro ha hb)
  have HPI := hid (fun w' (h : Row w' A (L.flatMap T2.v)) => piecesTo_any A n c L p q w' h hn hro hpp hqq)
  have HPK := hid (fun k hk => (roomP_of hro).pok k hk)
  have hn10 : n ≤ 10 := by have := (roomP_of hro).hi; omega
  have HPP := hid hpp
  unfold ptV at *
  clear hpq hro hpp hqq
  subst hn
  go_enter Try.func10, Try.ntmps10
  go_wp2_with (go_at_call 37; refine (gives_b hip (HIN.out _ 2 _ (HL.out.ext (by repeat (first | exact Ext.refl _ | refine Ext.alloc ?_ _ | assumption | refine Ext.over ?_ _ | refine Ext.drew ?_ | refine Ext.drewN ?_ _))) HROW.out)).over.mono ?_; rintro e w' ⟨rfl, xw, rfl⟩)
  have HB0 := hid (show (((w.alloc (.cells #[.slice A L.length c] 33)).alloc (.cells #[.int .i64 p.a, .int .i64 p.b] 35)).alloc (.cells #[.int .i64 q.a, .int .i64 q.b] 35)).cell? ⟨w.heap.size, 0, none⟩ = some (.slice A L.length c) by go_simp)
  have HB1 := hid (show Two (((w.alloc (.cells #[.slice A L.length c] 33)).alloc (.cells #[.int .i64 p.a, .int .i64 p.b] 35)).alloc (.cells #[.int .i64 q.a, .int .i64 q.b] 35)) (w.heap.size + 1) p.a p.b from ⟨by go_simp, by go_simp, by go_simp, by go_simp⟩)
  refine (HPI.out _ (HL.out.ext (by repeat (first | exact Ext.refl _ | refine Ext.alloc ?_ _ | assumption | refine Ext.over ?_ _ | refine Ext.drew ?_ | refine Ext.drewN ?_ _)))).mono ?_
  rintro _ w2 ⟨gd, dd, rfl, ho, he⟩
  have hE2 : Ext (((w.alloc (.cells #[.slice A L.length c] 33)).alloc (.cells #[.int .i64 p.a, .int .i64 p.b] 35)).alloc (.cells #[.int .i64 q.a, .int .i64 q.b] 35)) w2 := Ext.trans (by repeat (first | exact Ext.refl _ | refine Ext.alloc ?_ _ | assumption | refine Ext.over ?_ _ | refine Ext.drew ?_ | refine Ext.drewN ?_ _)) he
  have r0 := old_cell hE2 HB0.out
  have hpt := HB1.out.ext hE2
  have p0 := hpt.1
  have p1 := hpt.2.1
  obtain ⟨D, hD⟩ : ∃ D, D = distF L (L ++ [p]) q := ⟨_, rfl⟩
  obtain ⟨N, hN⟩ : ∃ N, N = distF L (L ++ [p]) q L.length := ⟨_, rfl⟩
  have hnb : -1 ≤ N ∧ N ≤ L.length + 1 := by rw [hN, dist_p]; exact bestS_bound L q p
  have HNB := hid hnb
  have HWI := hid (show wayN L (okI L D) (N - 1).toNat p = wayI L p q by unfold wayI nOf; rw [hN, dist_p, hD])
  have HCI := hid (show CI A L.length c w gd dd ((List.range L.length).map fun v => .int .i64 (D v)) (w2.heap.size + 1) p (some ⟨w2.heap.size, 0, none⟩) 0 0 [] ((w2.alloc (.cells #[] 3)).alloc (.cells #[.int .i64 p.a, .int .i64 p.b] 35)) from by
    have hs := hE2.size
    have hg := ho.lt gd rfl
    simp at hs
    have e1 : Ext w w2 := Ext.trans (by repeat (first | exact Ext.refl _ | refine Ext.alloc ?_ _ | assumption | refine Ext.over ?_ _ | refine Ext.drew ?_ | refine Ext.drewN ?_ _)) hE2
    have h1 := hg.1
    simp [ovr_size] at h1
    refine ⟨e1.trans (by repeat (first | exact Ext.refl _ | refine Ext.alloc ?_ _ | assumption | refine Ext.over ?_ _ | refine Ext.drew ?_ | refine Ext.drewN ?_ _)), old_cell (show Ext w2 _ by repeat (first | exact Ext.refl _ | refine Ext.alloc ?_ _ | assumption | refine Ext.over ?_ _ | refine Ext.drew ?_ | refine Ext.drewN ?_ _)) r0, ?_, ?_, ?_, by omega, ?_, ?_, by omega⟩
    · rw [hD]; exact own_ext (own_base ho (by simp [ovr_size]; omega)) (by repeat (first | exact Ext.refl _ | refine Ext.alloc ?_ _ | assumption | refine Ext.over ?_ _ | refine Ext.drew ?_ | refine Ext.drewN ?_ _))
    · have := Two.fresh (w := w2.alloc (.cells #[] 3)) (x := p.a) (y := p.b) (t := 35)
      simpa using this
    · exact own_ext (own_empty w2 w2.heap.size (w.heap.size + 1) rfl (by omega) 3 1) (by repeat (first | exact Ext.refl _ | refine Ext.alloc ?_ _ | assumption | refine Ext.over ?_ _ | refine Ext.drew ?_ | refine Ext.drewN ?_ _))
    · simp [Value.ownBlock]
    · simp [Value.ownBlock]; omega)
  rw [← hN]
  clear ho he hE2 HB0 HB1 hpt r0 HROW hN hD
  go_wp2_with fail
  clear p0 p1
  go_loopw [9, 10, 11] (fun nv ov pv wr => ∃ (z : Int) (a : T2) (l : List Nat) (A' : Option Addr) (m' c' gb : Nat), nv = .int .i64 z ∧ (-1 ≤ z ∧ z ≤ L.length + 1) ∧ ov = .slice A' m' c' ∧ pv = .pointer (some ⟨gb, 0, none⟩) ∧ m' + (z - 1).toNat ≤ 11 ∧ l ++ wayN L (okI L D) (z - 1).toNat a = wayI L p q ∧ pokT a = true ∧ CI A L.length c w gd dd ((List.range L.length).map fun v => .int .i64 (D v)) gb a A' m' c' l wr) (fun nv _ _ _ => (intOf nv).toNat)
  case atStart => exact ⟨N, p, [], _, _, _, _, rfl, hnb, rfl, rfl, by omega, by rw [HWI.out]; rfl, HPP.out, HCI.out⟩
  case round =>
    clear HCI HWI HNB hnb HIN HPI
    obtain ⟨z, a, l, A', m', c', gb, rfl, hzb, rfl, rfl, hm, hway, hpa, hci⟩ := hrel
    have HC := hid hci
    have HW := hid hway
    have HPA := hid hpa
    have r0 := hci.rb
    clear hci hway hpa
    by_cases hz : 1 < z
    · obtain ⟨s, hs⟩ : ∃ s : Nat, (s : Int) = z - 2 := ⟨(z - 2).toNat, by omega⟩
      have HT := hid (show (z - 1).toNat = s + 1 ∧ (z - 1 - 1).toNat = s ∧ ((s + 1 : Nat) : Int) = z - 1 by omega)
      clear hs
      go_wp2_with fail
      rename World => wo
      go_loopw [10, 36] (fun ov kv wr => ∃ (k : Nat), k ≤ L.length ∧ kv = .int .i64 ↑k ∧ ov = .slice A' m' c' ∧ (∀ j, j < k → okI L D (s + 1) a j = false) ∧ Ext wo wr) (fun _ kv _ => L.length - (intOf kv).toNat)
      case atStart => exact ⟨0, Nat.zero_le _, rfl, rfl, fun j hj => by omega, by repeat (first | exact Ext.refl _ | refine Ext.alloc ?_ _ | assumption | refine Ext.over ?_ _ | refine Ext.drew ?_ | refine Ext.drewN ?_ _)⟩
      case round =>
        obtain ⟨k, hk, rfl, rfl, hno, he⟩ := hrel
        have HNO := hid hno
        have HE := hid he
        have HCE := hid (HC.out.ext he)
        have r0 := HCE.out.rb
        have p0 := HCE.out.P.1
        have p1 := HCE.out.P.2.1
        clear hno he
        by_cases hlt : k < L.length
        · have hkt : (k : Int) < L.length := by omega
          have HRW := hid (HL.out.ext HCE.out.E)
          have HPJ := hid (HPK.out k hlt)
          obtain ⟨bk, off, hA, hc⟩ := HRW.out.t2 hlt
          obtain ⟨g0, g1⟩ := hc k hlt
          clear hc
          subst hA
          have HSKIP := hid (show okI L D (s + 1) a k = false → ∀ j, j < k + 1 → okI L D (s + 1) a j = false from fun h j hj => by
            by_cases hjk : j = k
            · rw [hjk]; exact h
            · exact HNO.out j (by omega))
          obtain ⟨bb, hbb⟩ : ∃ bb, bb = D k := ⟨_, rfl⟩
          have d0 : wr.cell? ⟨gd, k, none⟩ = some (.int .i64 bb) := by
            rw [HCE.out.D.cellAt k (by omega), List.getElem?_map, List.getElem?_range hlt, hbb]; rfl
          have HOKV := hid (show okI L D (s + 1) a k = ((bb == z - 1) && seesS L a (at2 L k)) by unfold okI; rw [← hbb, HT.out.2.2])
          clear hbb
          by_cases hb : bb = z - 1
          · have hbt : (bb == z - 1) = true := by simpa using hb
            replace hb := hid hb
            cases hse : seesS L a (at2 L k)
            case false =>
              have HS := hid (HSKIP.out (by rw [HOKV.out, hse, hbt]; rfl))
              go_wp2_with (go_at_call 39; refine (gives_b hse (HSE.out a (at2 L k) _ (HRW.out.ext (by repeat (first | exact Ext.refl _ | refine Ext.alloc ?_ _ | assumption | refine Ext.over ?_ _ | refine Ext.drew ?_ | refine Ext.drewN ?_ _))) HPA.out HPJ.out)).over.mono ?_; rintro e w' ⟨rfl, xw, rfl⟩)
              go_roundw
              case rel => exact ⟨k + 1, by omega, by go_num, rfl, HS.out, HE.out.trans (by repeat (first | exact Ext.refl _ | refine Ext.alloc ?_ _ | assumption | refine Ext.over ?_ _ | refine Ext.drew ?_ | refine Ext.drewN ?_ _))⟩
              case measure => simp [intOf]; omega
            case true =>
              have HY := hid (show okI L D (s + 1) a k = true by rw [HOKV.out, hse, hbt]; rfl)
              have x0 : (wr.alloc (.cells #[.int .i64 (at2 L k).a, .int .i64 (at2 L k).b] 35)).cell? ⟨wr.heap.size, 0, none⟩ = some (.int .i64 (at2 L k).a) := by go_simp
              have x1 : (wr.alloc (.cells #[.int .i64 (at2 L k).a, .int .i64 (at2 L k).b] 35)).cell? ⟨wr.heap.size, 1, none⟩ = some (.int .i64 (at2 L k).b) := by go_simp
              have X0 := hid x0
              have X1 := hid x1
              clear x0 x1
              have HSZ := hid (show w.heap.size + 1 ≤ (wr.alloc (.cells #[.int .i64 (at2 L k).a, .int .i64 (at2 L k).b] 35)).heap.size from by have := World.block_lt_of_cell? wr _ r0; simp at this ⊢; omega)
              have HO1 := hid (own_ext HCE.out.O (show Ext wr (wr.alloc (.cells #[.int .i64 (at2 L k).a, .int .i64 (at2 L k).b] 35)) by repeat (first | exact Ext.refl _ | refine Ext.alloc ?_ _ | assumption | refine Ext.over ?_ _ | refine Ext.drew ?_ | refine Ext.drewN ?_ _)))
              go_wp2_with (first | (go_at_call 39; refine (gives_b hse (HSE.out a (at2 L k) _ (HRW.out.ext (by repeat (first | exact Ext.refl _ | refine Ext.alloc ?_ _ | assumption | refine Ext.over ?_ _ | refine Ext.drew ?_ | refine Ext.drewN ?_ _))) HPA.out HPJ.out)).over.mono ?_; rintro e w' ⟨rfl, xw, rfl⟩) | (at_builtin; refine wpList_pushN rfl (.tmp 54) (.tmp 56) 28 rfl 3 Try.underlying28 info_intP rfl (by decide) (w.heap.size + 1) A' m' c' (vl l) rfl (wr.alloc (.cells #[.int .i64 (at2 L k).a, .int .i64 (at2 L k).b] 35)) HO1.out (by repeat (first | exact Ext.refl _ | refine Ext.alloc ?_ _ | assumption | refine Ext.over ?_ _ | refine Ext.drew ?_ | refine Ext.drewN ?_ _)) HSZ.out _ 1 1 [.int .i64 k] rfl rfl (lit_cells _ _ (by first | (simp; done) | simp [ovr_size]) _ _) (by intro u hu; simp at hu; subst hu; rfl) (by decide) (by omega) (by decide) ?_))
              intro A3 c3 w3 hown3 hg3 hn3
              have HC3 := hid ((HCE.out.ext (show Ext wr (wr.alloc (.cells #[.int .i64 (at2 L k).a, .int .i64 (at2 L k).b] 35)) by repeat (first | exact Ext.refl _ | refine Ext.alloc ?_ _ | assumption | refine Ext.over ?_ _ | refine Ext.drew ?_ | refine Ext.drewN ?_ _))).push hown3 hg3 (fun j hj => by have h := hn3 j hj; simpa using h))
              have hfar : some wr.heap.size ≠ (Value.slice A' m' c').ownBlock := fun h => by have h1 := (HCE.out.O.lt _ h.symm).2; omega
              have x0 := keep_new X0.out (Ext.refl _) hg3 hfar
              have x1 := keep_new X1.out (Ext.refl _) hg3 hfar
              obtain ⟨q0, q1, f0, f1⟩ := HC3.out.P
              have HC4 := hid (HC3.out.put (at2 L k))
              have HWN := hid (show wayN L (okI L D) (s + 1) a = k :: wayN L (okI L D) s (at2 L k) from wayN_some hlt HY.out HNO.out)
              clear hfar hown3 hg3 hn3 HC3 r0 p0 p1 d0 X0 X1 HO1
              go_wp2_with fail
              go_roundw
              case rel =>
                refine ⟨z - 1, at2 L k, l ++ [k], A3, m' + 1, c3, _, by go_num, by omega, rfl, rfl, by omega, ?_, HPJ.out, (by have h := HC4.out.box (t := 35); rw [World.size_setCell, World.size_setCell] at h; exact h)⟩
                rw [HT.out.2.1, List.append_assoc, List.singleton_append, ← HWN.out, ← HT.out.1]; exact HW.out
              case measure => simp [intOf]; omega
          · have hbt : (bb == z - 1) = false := by rw [beq_eq_false_iff_ne]; exact hb
            have HS := hid (HSKIP.out (by rw [HOKV.out, hbt]; rfl))
            clear hb
            go_wp2_with fail
            go_roundw
            case rel => exact ⟨k + 1, by omega, by go_num, rfl, HS.out, HE.out.trans (by repeat (first | exact Ext.refl _ | refine Ext.alloc ?_ _ | assumption | refine Ext.over ?_ _ | refine Ext.drew ?_ | refine Ext.drewN ?_ _))⟩
            case measure => simp [intOf]; omega
        · obtain rfl : k = L.length := by omega
          have HWN := hid (show wayN L (okI L D) (s + 1) a = wayN L (okI L D) s a from wayN_none HNO.out)
          go_wp2_with fail
          go_roundw
          case rel =>
            refine ⟨z - 1, a, l, A', m', c', _, by go_num, by omega, rfl, rfl, by omega, ?_, HPA.out, HCE.out.box⟩
            rw [HT.out.2.1, ← HWN.out, ← HT.out.1]; exact HW.out
          case measure => simp [intOf]; omega
    · have HWL := hid (show l = wayI L p q by rw [← HW.out, show (z - 1).toNat = 0 by omega]; simp [wayN])
      go_wp2_with fail
      go_ret2
      exact ⟨A', m', c', rfl, by rw [← HWL.out]; exact own_base (own_ext HC.out.O (by repeat (first | exact Ext.refl _ | refine Ext.alloc ?_ _ | assumption | refine Ext.over ?_ _ | refine Ext.drew ?_ | refine Ext.drewN ?_ _))) (by omega), HC.out.E.trans (by repeat (first | exact Ext.refl _ | refine Ext.alloc ?_ _ | assumption | refine Ext.over ?_ _ | refine Ext.drew ?_ | refine Ext.drewN ?_ _))⟩
/-- The way as both give it. -/
def cwL (L : List T2) (p q : T2) : List Int := if (isIn L p && isIn L q) = true then (wayS L p q).map fun (k : Nat) => (k : Int) else []
theorem cwL_val (L : List T2) (p q : T2) : (cwL L p q).map (Value.int .i64) = vl (if (isIn L p && isIn L q) = true then wayS L p q else []) := by
  unfold cwL vl
  split <;> simp
theorem cwL_len (L : List T2) (p q : T2) : (cwL L p q).length ≤ L.length + 1 := by
  unfold cwL
  split
  · rw [List.length_map]
    have h1 := wayN_len L (okS L q) (nOf L p q) p
    have h2 := bestS_bound L q p
    unfold wayS nOf at *
    omega
  · simp
theorem iWay_at (A : Option Addr) (n c : Nat) (L : List T2) (pa pb qa qb : Int) (w : World) (hl : Row w A (L.flatMap T2.v)) (hn : L.length = n) (hx : n ≤ 1048577)
    {b : Bool} (hb : (isIn L ⟨pa, pb⟩ && isIn L ⟨qa, qb⟩) = b) : Calls Try.prog 10 #[.agg #[.slice A n c], .agg #[.int .i64 pa, .int .i64 pb], .agg #[.int .i64 qa, .int .i64 qb]] w fun en w' => ∃ A' m' c', en = .returned (.tuple #[.slice A' m' c', .bool b]) ∧ w'.ownsRow w.heap.size 3 1 (.slice A' m' c') m' ((cwL L ⟨pa, pb⟩ ⟨qa, qb⟩).map (Value.int .i64)) ∧ Ext w w' := by
  have h := iWay_any A n c L ⟨pa, pb⟩ ⟨qa, qb⟩ w hl hn hx
  subst hb
  rw [cwL_val]
  try rw [ways] at h
  exact h
theorem sWay_at (A : Option Addr) (n c : Nat) (L : List T2) (pa pb qa qb : Int) (w : World) (hl : Row w A (L.flatMap T2.v)) (hn : L.length = n) (hx : n ≤ 1048577)
    {b : Bool} (hb : (isIn L ⟨pa, pb⟩ && isIn L ⟨qa, qb⟩) = b) : Calls Try.prog 7 #[.agg #[.slice A n c], .agg #[.int .i64 pa, .int .i64 pb], .agg #[.int .i64 qa, .int .i64 qb]] w fun en w' => ∃ A' m' c', en = .returned (.tuple #[.slice A' m' c', .bool b]) ∧ w'.ownsRow w.heap.size 3 1 (.slice A' m' c') m' ((cwL L ⟨pa, pb⟩ ⟨qa, qb⟩).map (Value.int .i64)) ∧ Ext w w' := by
  have h := sWay_any A n c L ⟨pa, pb⟩ ⟨qa, qb⟩ w hl hn hx
  subst hb
  rw [cwL_val]
  try rw [ways] at h
  exact h
end Go.Proofs.Ytkifapcegiajiaa
/- Walks: a room and two points of its floor are drawn. Conditions: sizes. -/
namespace Go.Proofs.Ytkifapcegiajiaa
open Go.RowKit
set_option linter.unusedVariables false

set_option maxRecDepth 100000 in
set_option maxHeartbeats 3200000 in
theorem DrawSight_any (A : Option Addr) (n c : Nat) (bs : List Int) (w : World) (hl : Row w A (bs.map (Value.int .u8))) (hn : bs.length = n) (hx : n ≤ 1048576) (hz : ∀ z ∈ bs, 0 ≤ z ∧ z ≤ 255) :
    Calls Try.prog 26 #[.slice A n c] w fun en w' => ∃ (A : Option Addr) (k c : Nat) (L : List T2) (p q : T2), en = .returned (.tuple #[.agg #[.slice A k c], .agg #[.int .i64 p.a, .int .i64 p.b], .agg #[.int .i64 q.a, .int .i64 q.b]]) ∧ L.length = k ∧ roomS L = true ∧ onFloor L p ∧ onFloor L q ∧ Row w' A (L.flatMap T2.v) ∧ Ext w w' := by
  have HZ := hid hz
  clear hz
  go_enter Try.func26, Try.ntmps26
  go_wp2_with fail
  obtain ⟨wb, hwb⟩ : ∃ wb, wb = ((w.alloc (.cells #[.slice none 0 0] 33)).alloc (.cells #[.int .i64 0, .int .i64 0] 35)).alloc (.cells #[.int .i64 0, .int .i64 0] 35) := ⟨_, rfl⟩
  have EB : Ext w wb := by rw [hwb]; repeat (first | exact Ext.refl _ | refine Ext.alloc ?_ _ | assumption | refine Ext.over ?_ _ | refine Ext.drew ?_ | refine Ext.drewN ?_ _)
  have HB2 := hid (show Box wb w.heap.size (.slice none 0 0) from ⟨by rw [hwb]; go_simp, by rw [hwb]; go_simp⟩)
  have HB3 := hid (show Two wb (w.heap.size + 1) 0 0 from ⟨by rw [hwb]; go_simp, by rw [hwb]; go_simp, by rw [hwb]; go_simp, by rw [hwb]; go_simp⟩)
  have HB4 := hid (show Two wb (w.heap.size + 2) 0 0 from ⟨by rw [hwb]; go_simp, by rw [hwb]; go_simp, by rw [hwb]; go_simp, by rw [hwb]; go_simp⟩)
  have HSB := hid (show w.heap.size + 3 = wb.heap.size by rw [hwb]; simp)
  refine (l01New_any A n c bs _ (hl.ext (by repeat (first | exact Ext.refl _ | refine Ext.alloc ?_ _ | assumption | refine Ext.over ?_ _ | refine Ext.drew ?_ | refine Ext.drewN ?_ _))) hn hx HZ.out).mono ?_
  rw [← hwb]
  clear hwb
  rintro _ w1 ⟨g, rfl, hg, hc, he⟩
  have HC := hid hc
  have HE := hid (EB.trans he)
  have hbl := HSB.out
  have hgl := hc.lt
  have H2 := hid (HB2.out.blk (he.block _ (by omega)))
  have H3 := hid (HB3.out.ext he)
  have H4 := hid (HB4.out.ext he)
  have hs1 := he.size
  clear hc he HB2 HB3 HB4 HSB EB
  go_wp2_with fail
  refine (l04Room_any g w1 HC.out).mono ?_
  rintro _ w2 ⟨B, k, d, L, rfl, hll, hrm, ho, hd⟩
  have HRM := hid hrm
  have HLL := hid hll
  obtain ⟨w3, hw3⟩ : ∃ w3, w3 = w2.alloc (.cells #[.slice B k d] 33) := ⟨_, rfl⟩
  have e3 : Ext w2 w3 := by rw [hw3]; repeat (first | exact Ext.refl _ | refine Ext.alloc ?_ _ | assumption | refine Ext.over ?_ _ | refine Ext.drew ?_ | refine Ext.drewN ?_ _)
  have HD3 := hid (hd.ext e3)
  have HO3 := hid (own_ext ho e3)
  have HR3 := hid (show Box w3 w2.heap.size (.slice B k d) from ⟨by rw [hw3]; go_simp, by rw [hw3]; go_simp⟩)
  have hbr : w1.heap.size ≤ w2.heap.size := hd.size
  go_wp2_with fail
  rw [← hw3]
  clear hw3 e3 ho hd hll hrm
  generalize w2.heap.size = br at HR3 hbr ⊢
  have hxr := HR3.out.1
  have hbg : ¬ br = g := by omega
  go_wp2_with fail
  refine (l08Point_any g B k d L w3 HD3.out.2 (Row.of_own HO3.out) HLL.out HRM.out.1).mono ?_
  rintro _ w4 ⟨p, rfl, hp, hd⟩
  obtain ⟨w5, hw5⟩ : ∃ w5, w5 = w4.alloc (.cells #[.int .i64 p.a, .int .i64 p.b] 35) := ⟨_, rfl⟩
  have e5 : Ext w4 w5 := by rw [hw5]; repeat (first | exact Ext.refl _ | refine Ext.alloc ?_ _ | assumption | refine Ext.over ?_ _ | refine Ext.drew ?_ | refine Ext.drewN ?_ _)
  have HP := hid hp
  have HD5 := hid ((HD3.out.trans hd).ext e5)
  have HO5 := hid (own_ext (hd.own HO3.out hgl) e5)
  have HR5 := hid ((HR3.out.grown hd.1 (by intro e; injection e with e; exact hbg e.symm)).ext e5)
  have p0 : w5.cell? ⟨w4.heap.size, 0, none⟩ = some (.int .i64 p.a) := by rw [hw5]; go_simp
  have p1 : w5.cell? ⟨w4.heap.size, 1, none⟩ = some (.int .i64 p.b) := by rw [hw5]; go_simp
  have hbp : w1.heap.size ≤ w4.heap.size := by have := hd.size; have := HD3.out.size; omega
  go_wp2_with fail
  rw [← hw5]
  clear hw5 e5 hd hp HD3 HO3 HR3 hxr
  generalize w4.heap.size = bp at p0 p1 hbp ⊢
  have hxr := HR5.out.1
  have hpg : ¬ bp = g := by omega
  have hr2 : ¬ br = w.heap.size := by omega
  have hr3 : ¬ br = w.heap.size + 1 := by omega
  have hp2 : ¬ bp = w.heap.size := by omega
  have hp3 : ¬ bp = w.heap.size + 1 := by omega
  have hg2 : ¬ g = w.heap.size := by omega
  have hg3 : ¬ g = w.heap.size + 1 := by omega
  have hg4 : ¬ g = w.heap.size + 2 := by omega
  refine wp_region_e (LaterT g w.heap.size (w.heap.size + 1)) (laterT_steady _ _ _) [.q 0, .q 1, .q 2, .q 3, .u 4, .u 5, .u 6] 7 _ rfl (by kernel_rfl) (by kernel_rfl) (fun w6 e6 => ?_)
  have HD6 := hid (HD5.out.ext e6)
  have HO6 := hid (own_ext HO5.out e6)
  have p0 := old_cell e6 p0
  have p1 := old_cell e6 p1
  have hxr := old_cell e6 hxr
  clear e6 HD5 HO5 HR5
  simp only [pick, List.getElem?_cons_succ, List.getElem?_cons_zero]
  repeat (refine wpE_q (fun K hK => ?_); go_simp; refine hK _ ?_; clear hK K)
  refine wpE_u ?_
  refine stepH_of (fun K hK => ?_)
  go_simp
  refine (l08Point_any g B k d L w6 HD6.out.2 (Row.of_own HO6.out) HLL.out HRM.out.1).mono ?_
  rintro _ w7 ⟨q, rfl, hq, hd⟩
  refine ⟨_, rfl, hK _ _ (laterT_of (Kept3.grown hd.1 (.inl rfl))) ?_⟩; clear hK K
  have HQ := hid hq
  have HD7 := hid (HD6.out.trans hd)
  have HO7 := hid (hd.own HO6.out hgl)
  have H27 := hid (H2.out.blk (HD7.out.1.block _ (by omega) (by intro e; injection e with e; exact hg2 e.symm)))
  have H37 := hid (H3.out.kept HD7.out.1 (by intro e; injection e with e; exact hg3 e))
  have H47 := hid (H4.out.kept HD7.out.1 (by intro e; injection e with e; exact hg4 e))
  have hc2 := H27.out.1
  have hf2 := H27.out.2
  clear hd hq HD6 HO6 p0 p1 hxr H2 H3 H4
  refine wpE_u ?_
  refine stepH_of (fun K hK => ?_)
  go_simp
  have hgr : w7.grownBy (w7.setCell ⟨w.heap.size, 0, none⟩ (.slice B k d)) (some w.heap.size) := only_setCell (g := w.heap.size) (p := ⟨w.heap.size, 0, none⟩) (World.grownBy.refl _ _) (.inl rfl) _
  refine hK _ _ (laterT_of (Kept3.grown hgr (.inr (.inl rfl)))) ?_; clear hK K
  obtain ⟨w8, hw8⟩ : ∃ w8, w8 = w7.setCell ⟨w.heap.size, 0, none⟩ (.slice B k d) := ⟨_, rfl⟩
  rw [← hw8] at hgr ⊢
  have hx2 := H27.out.put (.slice B k d)
  rw [← hw8] at hx2
  have HX8 := hid hx2
  have HO8 := hid (HO7.out.kept hgr (.inr fun e => by have := (HO7.out.lt _ e).1; omega))
  have H38 := hid (H37.out.kept hgr (by intro e; injection e with e; omega))
  have H48 := hid (H47.out.kept hgr (by intro e; injection e with e; omega))
  have HE8 := hid (show Ext w w8 by rw [hw8]; exact (HD7.out.out HE.out (by omega)).setCell (by exact Nat.le_refl _) _)
  clear hw8 hgr HD7 H27 hx2 hf2 hc2 H37 H47
  obtain ⟨a0, a1, a2, a3⟩ := H38.out
  refine wpE_u ?_
  refine stepH_of (fun K hK => ?_)
  go_simp
  have hgr : w8.grownBy ((w8.setCell ⟨w.heap.size + 1, 0, none⟩ (.int .i64 p.a)).setCell ⟨w.heap.size + 1, 1, none⟩ (.int .i64 p.b)) (some (w.heap.size + 1)) := only_setCell (g := w.heap.size + 1) (p := ⟨w.heap.size + 1, 1, none⟩) (only_setCell (g := w.heap.size + 1) (p := ⟨w.heap.size + 1, 0, none⟩) (World.grownBy.refl _ _) (.inl rfl) _) (.inl rfl) _
  refine hK _ _ (laterT_of (Kept3.grown hgr (.inr (.inr rfl)))) ?_; clear hK K
  obtain ⟨w9, hw9⟩ : ∃ w9, w9 = (w8.setCell ⟨w.heap.size + 1, 0, none⟩ (.int .i64 p.a)).setCell ⟨w.heap.size + 1, 1, none⟩ (.int .i64 p.b) := ⟨_, rfl⟩
  have h3 := H38.out.put (x' := p.a) (y' := p.b)
  rw [← hw9] at hgr h3 ⊢
  have hx9 := HX8.out.grown hgr (by intro e; injection e with e; omega)
  have HO9 := hid (HO8.out.kept hgr (.inr fun e => by have := (HO8.out.lt _ e).1; omega))
  have h4 := H48.out.kept hgr (by intro e; injection e with e; omega)
  have HE9 := hid (show Ext w w9 by rw [hw9]; exact (HE8.out.setCell (p := ⟨w.heap.size + 1, 0, none⟩) (by show w.heap.size ≤ w.heap.size + 1; omega) _).setCell (p := ⟨w.heap.size + 1, 1, none⟩) (by show w.heap.size ≤ w.heap.size + 1; omega) _)
  have hc2 := hx9.1
  have hc3 := h3.1
  have hc4 := h3.2.1
  obtain ⟨b0, b1, b2, b3⟩ := h4
  clear hw9 hgr hx9 h3 HX8 HO8 H38 H48 HE8 a0 a1 a2 a3
  refine wpE_nil (fun K hK => ?_)
  go_simp
  refine hK _ _ ?_; clear hK K
  go_wp2_with fail
  refine bodyPost_ret (v := .tuple #[.agg #[.slice B k d], .agg #[.int .i64 p.a, .int .i64 p.b], .agg #[.int .i64 q.a, .int .i64 q.b]]) (by first | (simp [results, Try.results26, go_sem, b0, b1, hc2, hc3, hc4]; done) | (unfold results; rw [Try.results26]; go_simp)) rfl ?_
  refine ⟨B, k, d, L, p, q, rfl, HLL.out, HRM.out.1, floor_on HRM.out.1 HP.out, floor_on HRM.out.1 HQ.out, Row.of_own (own_farS (own_farS HO9.out (p := ⟨w.heap.size + 2, 0, none⟩) (by show w.heap.size + 2 < w1.heap.size; omega) _) (p := ⟨w.heap.size + 2, 1, none⟩) (by show w.heap.size + 2 < w1.heap.size; omega) _), (HE9.out.setCell (p := ⟨w.heap.size + 2, 0, none⟩) (by show w.heap.size ≤ w.heap.size + 2; omega) _).setCell (p := ⟨w.heap.size + 2, 1, none⟩) (by show w.heap.size ≤ w.heap.size + 2; omega) _⟩
end Go.Proofs.Ytkifapcegiajiaa
/- Plain law: corners beside each other see each other; ways between corners are short, and each of their points sees the next. Conditions: a valid room. -/
namespace Go.Proofs.Ytkifapcegiajiaa
open Go.RowKit
set_option linter.unusedVariables false

/-- Walls that are no neighbours do not meet; no wall goes straight on. -/
theorem room_walls {L : List T2} (h : roomS L = true) : (∀ i, i < L.length → bend L i = false) ∧ ∀ i k, i < L.length → k < L.length → i ≠ k → nx L.length i ≠ k → nx L.length k ≠ i → meetQ (at2 L i) (nxt L i) (at2 L k) (nxt L k) = false := by
  have hr := roomP_of h
  unfold roomS at h
  simp only [Bool.and_eq_true] at h
  obtain ⟨⟨⟨h1, h2⟩, h3⟩, h4⟩ := h
  rw [allN_iff] at h3
  have hb : ∀ i, i < L.length → bend L i = false := fun i hi => by
    have := h3 i hi
    unfold rowS at this
    rw [Bool.and_eq_true, Bool.not_eq_true'] at this
    exact this.1
  refine ⟨hb, fun i k hi hk hne e1 e2 => ?_⟩
  have := h3 i hi
  unfold rowS at this
  rw [Bool.and_eq_true, allN_iff] at this
  have := this.2 k hk
  unfold pairS at this
  rw [beq_eq_false_iff_ne.2 (fun e => hne e.symm), beq_eq_false_iff_ne.2 e2, beq_eq_false_iff_ne.2 e1, Bool.false_or, Bool.false_or, Bool.false_or] at this
  have hw : ∀ j, j < L.length → wokP (at2 L j) (nxt L j) = true := fun j hj => by
    unfold wokP
    rw [poks_at h2 hj, show pokT (nxt L j) = true from poks_at h2 (nx_lt hj)]
    cases e5 : eqP (at2 L j) (nxt L j)
    · rfl
    · have h6 := hb j hj
      unfold bend at h6
      rw [← eqP_iff.1 e5, turnP_aab] at h6
      simp at h6
  unfold meetA meetP at this
  rw [hw i hi, hw k hk] at this
  simpa using this
theorem oppo_l (y : Int) : oppo 0 y = false := by unfold oppo; rw [show sgn 0 * sgn y = 0 by rw [show sgn 0 = 0 by decide, Int.zero_mul], IntWalk.wrap64_in _ (by omega)]; rfl
theorem oppo_r (x : Int) : oppo x 0 = false := by rw [oppo_comm]; exact oppo_l x
theorem turn_bab {a b : T2} (ha : small a) (hb : small b) : turnP a b a = 0 := by rw [turn_small ha hb ha]; unfold turnZ; simp
theorem turn_bbb {a b : T2} (ha : small a) (hb : small b) : turnP a b b = 0 := by rw [turn_small ha hb hb]; unfold turnZ; rw [Int.mul_comm, Int.sub_self]
section
variable {L : List T2}
theorem wall_cross (h : roomS L = true) {k j : Nat} (hk : k < L.length) (hj : j < L.length) : crossP (at2 L k) (nxt L k) (at2 L j) (nxt L j) = false := by
  have hr := roomP_of h
  have sk := hr.small k hk
  have sk' : small (nxt L k) := hr.small _ (nx_lt hk)
  by_cases e : k = j
  · subst e
    unfold crossP; rw [turn_bab sk sk', oppo_l]; rfl
  by_cases e1 : nx L.length k = j
  · have : at2 L j = nxt L k := by unfold nxt; rw [e1]
    unfold crossP; rw [this, turn_bbb sk sk', oppo_l]; rfl
  by_cases e2 : nx L.length j = k
  · have : nxt L j = at2 L k := by unfold nxt; rw [e2]
    unfold crossP; rw [this, turn_bab sk sk', oppo_r]; rfl
  have := (room_walls h).2 k j hk hj e e1 e2
  unfold meetQ at this
  simp only [Bool.or_eq_false_iff] at this
  exact this.1.1.1.1
theorem wall_cut (h : roomS L = true) {k j : Nat} (hk : k < L.length) (hj : j < L.length) : cutF L (at2 L k) (nxt L k) j = false := by
  have hr := roomP_of h
  cases hc : cutF L (at2 L k) (nxt L k) j
  · rfl
  exfalso
  unfold cutF at hc
  simp only [Bool.and_eq_true, Bool.not_eq_true'] at hc
  obtain ⟨⟨h1, h2⟩, h3⟩ := hc
  have hjk : j ≠ k := fun e => by rw [e, eqP_iff.2 rfl] at h1; cases h1
  have hjn : nx L.length k ≠ j := fun e => by
    have : at2 L j = nxt L k := by unfold nxt; rw [e]
    rw [this, eqP_iff.2 rfl] at h2; cases h2
  by_cases e2 : nx L.length j = k
  · have hb := (room_walls h).1 j hj
    unfold bend at hb
    have e3 : nxt L j = at2 L k := by unfold nxt; rw [e2]
    have e4 : at2 L (nx2 L.length j) = nxt L k := by
      unfold nxt
      congr 1
      rw [← e2]
      unfold nx nx2
      rw [Nat.mod_add_mod]
    have sk' : small (nxt L k) := hr.small _ (nx_lt hk)
    rw [e3, e4, turn_small (hr.small j hj) (hr.small k hk) sk'] at hb
    have h4 := ((onP_small (hr.small j hj) (hr.small k hk) sk').1 h3).1
    have h5 : turnZ (at2 L j) (at2 L k) (nxt L k) = turnZ (at2 L k) (nxt L k) (at2 L j) := by unfold turnZ; grind
    rw [h5, h4] at hb
    simp at hb
  · have := (room_walls h).2 k j hk hj (fun e => hjk e.symm) hjn e2
    unfold meetQ at this
    simp only [Bool.or_eq_false_iff] at this
    rw [this.1.2] at h3
    cases h3
/-- Neighbours see each other. -/
theorem wall_sees (h : roomS L = true) {k : Nat} (hk : k < L.length) : seesS L (at2 L k) (nxt L k) = true := by
  have hr := roomP_of h
  have hn : nx L.length k ≠ k := by
    unfold nx
    have := hr.lo
    intro e
    rcases Nat.lt_or_ge (k + 1) L.length with h1 | h1
    · rw [Nat.mod_eq_of_lt h1] at e; omega
    · rw [show k + 1 = L.length by omega, Nat.mod_self] at e; omega
  have hab : at2 L k ≠ nxt L k := hr.ne k _ hk (nx_lt hk) (fun e => hn e.symm)
  have sk := hr.small k hk
  have sk' : small (nxt L k) := hr.small _ (nx_lt hk)
  have pk := hr.pok k hk
  have pk' := hr.pok _ (nx_lt (i := k) hk)
  rw [sees_iff hr hab sk sk']
  constructor
  · unfold noCross
    rw [allN_iff]
    intro j hj
    rw [wall_cross h hk hj]; rfl
  · have hmem : ∀ c, c ∈ cutsL L (at2 L k) (nxt L k) L.length → c = at2 L k ∨ c = nxt L k := fun c hc => by
      rcases cuts_iff.1 hc with h1 | h1 | ⟨i, hi, _, h2⟩
      · exact .inl h1
      · exact .inr h1
      · rw [wall_cut h hk hi] at h2; cases h2
    have hmid : ∀ p q, (p = at2 L k ∧ q = nxt L k) ∨ (p = nxt L k ∧ q = at2 L k) → ¬ holdsS (dblL L) (midP p q) < 0 := by
      intro p q hpq
      have hm : midP p q = midP (at2 L k) (nxt L k) := by
        rcases hpq with ⟨rfl, rfl⟩ | ⟨rfl, rfl⟩
        · rfl
        · exact midP_symm _ _
      rw [hm]
      have hoff : offW (dblL L) (midP (at2 L k) (nxt L k)) = false := by
        unfold offW
        refine allN_false (k := k) (by rw [dblL_len]; exact hk) ?_
        unfold onAt
        rw [dbl_at2 hk, dbl_nxt hk]
        have b1 := pok_bd pk
        have b2 := pok_bd (p := nxt L k) pk'
        have := (onP_small (p := midP (at2 L k) (nxt L k)) (a := dbl (at2 L k)) (b := dbl (nxt L k)) (mid_small pk pk') (dbl_small pk) (dbl_small pk')).2 (by
          rw [dbl_val sk, dbl_val sk']
          have hmv : midP (at2 L k) (nxt L k) = ⟨(at2 L k).a + (nxt L k).a, (at2 L k).b + (nxt L k).b⟩ := by
            unfold midP
            rw [IntWalk.wrap64_in _ (by omega), IntWalk.wrap64_in _ (by omega)]
          rw [hmv]
          refine ⟨?_, ?_⟩
          · unfold turnZ; dsimp only; grind
          · unfold inBox; dsimp only; omega)
        rw [this]; rfl
      unfold holdsS
      rw [hoff]
      simp
    intro p hp q hq hne _
    rcases hmem p hp with h1 | h1 <;> rcases hmem q hq with h2 | h2
    · exact absurd (h1.trans h2.symm) hne
    · exact hmid p q (.inl ⟨h1, h2⟩)
    · exact hmid p q (.inr ⟨h1, h2⟩)
    · exact absurd (h1.trans h2.symm) hne
theorem nx_val {n i : Nat} (h : i < n) : nx n i = if i + 1 = n then 0 else i + 1 := by
  unfold nx
  split
  · rename_i e; rw [e, Nat.mod_self]
  · exact Nat.mod_eq_of_lt (by omega)
/-- From corner to corner along the walls. -/
theorem pw_cyc (h : roomS L = true) {j : Nat} (hj : j < L.length) : ∀ d i, i < L.length → (i ≤ j ∧ i + d = j ∨ j < i ∧ i + d = j + L.length) → PW L (· ∈ L) (at2 L j) d (at2 L i)
  | 0, i, hi, hd => by
    obtain rfl : i = j := by omega
    exact .nil
  | d + 1, i, hi, hd => by
    have hr := roomP_of h
    have hlo := hr.lo
    have hne : at2 L i ≠ at2 L j := hr.ne i j hi hj (by omega)
    have hnx := nx_val hi
    have ih := pw_cyc h hj d (nx L.length i) (nx_lt hi) (by rw [hnx]; split <;> omega)
    exact ih.step (at2_mem (nx_lt hi)) (wall_sees h hi) hne
theorem corner_d (h : roomS L = true) {i j : Nat} (hi : i < L.length) (hj : j < L.length) : ∃ m, m ≤ L.length - 1 ∧ IsD L (· ∈ L) (at2 L j) m (at2 L i) := by
  have key : ∃ d, d ≤ L.length - 1 ∧ PW L (· ∈ L) (at2 L j) d (at2 L i) := by
    rcases Nat.lt_or_ge j i with h1 | h1
    · exact ⟨j + L.length - i, by omega, pw_cyc h hj _ i hi (.inr ⟨h1, by omega⟩)⟩
    · exact ⟨j - i, by omega, pw_cyc h hj _ i hi (.inl ⟨h1, by omega⟩)⟩
  obtain ⟨d, hd, hp⟩ := key
  rcases best_spec L (at2 L j) (at2 L i) with ⟨m, _, hm⟩ | ⟨_, hn⟩
  · exact ⟨m, by
      rcases Nat.lt_or_ge d m with h1 | h1
      · exact absurd hp (hm.2 d h1)
      · omega, hm⟩
  · exact absurd hp (hn d)
/-- Each sees the next, and the last sees q. -/
def Chain (L : List T2) : T2 → List T2 → T2 → Prop
  | a, [], q => seesS L a q = true
  | a, x :: r, q => seesS L a x = true ∧ Chain L x r q
theorem way_chain {q : T2} : ∀ t a, IsD L (· ∈ L) q (t + 1) a → Chain L a ((wayN L (okS L q) t a).map (at2 L)) q ∧ (∀ k ∈ wayN L (okS L q) t a, k < L.length) ∧ (wayN L (okS L q) t a).length = t
  | 0, a, h => by
    refine ⟨?_, by simp [wayN], rfl⟩
    show seesS L a q = true
    cases h.1 with
    | one h1 _ => exact h1
  | t + 1, a, h => by
    cases hf : firstK L.length (okS L q (t + 1) a) with
    | none =>
      obtain ⟨k, hk, h1, h2⟩ := next_is h
      unfold firstK at hf
      rw [List.find?_eq_none] at hf
      exact absurd ((okS_iff h).2 ⟨h1, h2⟩) (hf k (by simpa using hk))
    | some k =>
      obtain ⟨hk, ho⟩ := firstK_iff hf
      obtain ⟨h1, h2⟩ := (okS_iff h).1 ho
      obtain ⟨i1, i2, i3⟩ := way_chain t (at2 L k) h1
      have e : wayN L (okS L q) (t + 1) a = k :: wayN L (okS L q) t (at2 L k) := by simp only [wayN, hf]
      rw [e]
      refine ⟨⟨h2, i1⟩, fun j hj => ?_, by rw [List.length_cons, i3]⟩
      rcases List.mem_cons.1 hj with rfl | hj
      · exact hk
      · exact i2 j hj
/-- The way from corner to corner. -/
theorem wayS_chain (h : roomS L = true) {i j : Nat} (hi : i < L.length) (hj : j < L.length) : Chain L (at2 L i) ((wayS L (at2 L i) (at2 L j)).map (at2 L)) (at2 L j) ∧ (∀ k ∈ wayS L (at2 L i) (at2 L j), k < L.length) ∧ (wayS L (at2 L i) (at2 L j)).length ≤ 8 := by
  have hr := roomP_of h
  have hhi := hr.hi
  obtain ⟨m, hm, hd⟩ := corner_d h hi hj
  have hb : bestS L (at2 L j) (at2 L i) = m := ((best_spec L (at2 L j) (at2 L i)).iff m).2 hd
  unfold wayS nOf
  rw [hb]
  cases m with
  | zero =>
    refine ⟨?_, by simp [wayN], by simp [wayN]⟩
    show seesS L (at2 L i) (at2 L j) = true
    have e : at2 L i = at2 L j := PW.zero hd.1
    rw [e]
    exact sees_self hr (hr.pok j hj) (by rw [place_corner hr hj]; omega)
  | succ t =>
    rw [show (((t + 1 : Nat) : Int) - 1).toNat = t by omega]
    obtain ⟨h1, h2, h3⟩ := way_chain t (at2 L i) hd
    exact ⟨h1, h2, by omega⟩
end
end Go.Proofs.Ytkifapcegiajiaa
/- Plain law: among points of the plane, a wall that shuts the way to the chosen corner crosses the wall in front. No condition. -/
namespace Go.Proofs.Ytkifapcegiajiaa
open Go.RowKit
set_option linter.unusedVariables false

/-- Plucker. -/
theorem plu (a d c s v : T2) : turnZ a d c * turnZ a s v = turnZ a s c * turnZ a d v + turnZ a d s * turnZ a c v := by
  unfold turnZ
  generalize d.a - a.a = d1; generalize d.b - a.b = d2
  generalize c.a - a.a = c1; generalize c.b - a.b = c2
  generalize s.a - a.a = s1; generalize s.b - a.b = s2
  generalize v.a - a.a = v1; generalize v.b - a.b = v2
  grind
theorem tri_sum (a u v s : T2) : turnZ u v s = turnZ a u v + turnZ a v s + turnZ a s u := by
  unfold turnZ; grind
theorem turn_cyc (a b c : T2) : turnZ a b c = turnZ b c a := by unfold turnZ; grind
theorem turn_rev (a b c : T2) : turnZ a c b = -turnZ a b c := by unfold turnZ; grind
/-- Where two lines meet, seen from w. -/
theorem meet_at (w d u v s t : T2) : turnZ u v t * turnZ w d s - turnZ u v s * turnZ w d t = turnZ s t u * turnZ w d v - turnZ s t v * turnZ w d u := by
  unfold turnZ
  grind
theorem pp {x y : Int} (h : 0 < x) (k : 0 < y) : 0 < x * y := Int.mul_pos h k
theorem pn {x y : Int} (h : 0 < x) (k : 0 ≤ y) : 0 ≤ x * y := Int.mul_nonneg (by omega) k
theorem of_pp {x y : Int} (h : 0 < x) (k : 0 < x * y) : 0 < y := by
  rcases Int.lt_or_le 0 y with h1 | h1
  · exact h1
  · have := Int.mul_nonneg (a := x) (b := -y) (by omega) (by omega)
    rw [Int.mul_neg] at this; omega
theorem lin4 {lc sv tv Tt Ts sc dv ls cv tc lt cs ct : Int} (p1 : lc * sv = sc * dv + ls * cv) (p2 : lc * tv = tc * dv + lt * cv) (e3 : sc = -cs) (e2 : tc = -ct) :
    lc * (Tt * sv - Ts * tv) = (ct * Ts - cs * Tt) * dv + (Tt * ls - Ts * lt) * cv := by
  have : lc * (Tt * sv - Ts * tv) = Tt * (lc * sv) - Ts * (lc * tv) := by grind
  rw [this, p1, p2, e3, e2]
  grind
/-- A wall that shuts the way to the chosen corner crosses the wall in front. -/
theorem shut {a d u v c s t : T2} (hu : turnZ a d u < 0) (hv : 0 < turnZ a d v) (hP : 0 < turnZ a u v) (hc : 0 < turnZ a d c) (hTc : 0 ≤ turnZ u v c) (hcv : 0 ≤ turnZ a c v)
    (hs : turnZ a c s < 0) (ht : 0 < turnZ a c t) (hN : 0 < turnZ a s t) (hT' : turnZ s t c < 0) (h0 : turnZ a d s ≠ 0)
    (hmin : 0 < turnZ a d s → turnZ u v s < 0)
    (hfst : turnZ a d s < 0 → 0 < turnZ a d t → turnZ a u v * (turnZ a d t - turnZ a d s) ≤ turnZ a s t * (turnZ a d v - turnZ a d u)) :
    turnZ u v s < 0 ∧ 0 < turnZ u v t ∧ 0 < turnZ s t u ∧ turnZ s t v < 0 := by
  have e1 : turnZ s t c = turnZ a s t + turnZ a t c + turnZ a c s := tri_sum a s t c
  have e2 : turnZ a t c = -turnZ a c t := turn_rev a c t
  have e3 : turnZ a s c = -turnZ a c s := turn_rev a c s
  have e4 : turnZ a v c = -turnZ a c v := turn_rev a c v
  have e5 : turnZ u v c = turnZ a u v + turnZ a v c + turnZ a c u := tri_sum a u v c
  -- the point of the wall on the way, homogeneous
  have I1 : turnZ a c t * turnZ u v s - turnZ a c s * turnZ u v t = (turnZ a c t - turnZ a c s - turnZ a s t) * turnZ a u v + turnZ a s t * turnZ u v c := by
    unfold turnZ; grind
  have I2 : turnZ a s t * turnZ a d c = turnZ a c t * turnZ a d s - turnZ a c s * turnZ a d t := by
    unfold turnZ; grind
  have I3 : turnZ a d t * turnZ u v s - turnZ a d s * turnZ u v t = (turnZ a d t - turnZ a d s) * turnZ a u v - turnZ a s t * (turnZ a d v - turnZ a d u) := by
    unfold turnZ; grind
  have p1 := plu a d c s v
  have p2 := plu a d c t v
  have m1 := meet_at a d u v s t
  have m2 : turnZ u v t * turnZ a s v - turnZ u v s * turnZ a t v = -(turnZ s t v * turnZ a u v) := by unfold turnZ; grind
  have I4 : turnZ a d c * (turnZ u v t * turnZ a s v - turnZ u v s * turnZ a t v) = (turnZ a c t * turnZ u v s - turnZ a c s * turnZ u v t) * turnZ a d v + (turnZ u v t * turnZ a d s - turnZ u v s * turnZ a d t) * turnZ a c v := lin4 p1 p2 e3 e2
  generalize turnZ u v s = Ts at *
  generalize turnZ u v t = Tt at *
  generalize turnZ s t u = Uu at *
  generalize turnZ s t v = Uv at *
  generalize turnZ s t c = Uc at *
  generalize turnZ u v c = Tc at *
  generalize turnZ a d s = ls at *
  generalize turnZ a d t = lt at *
  generalize turnZ a d u = lu at *
  generalize turnZ a d v = lv at *
  generalize turnZ a d c = lc at *
  generalize turnZ a u v = P at *
  generalize turnZ a s t = N at *
  generalize turnZ a c s = cs at *
  generalize turnZ a c t = ct at *
  generalize turnZ a c v = cv at *
  have hy : 0 < ct * Ts - cs * Tt := by
    rw [I1]
    have h1 := pp (x := ct - cs - N) (y := P) (by omega) hP
    have h2 := pn (x := N) (y := Tc) hN hTc
    omega
  have hD : 0 < ct * ls - cs * lt := by rw [← I2]; exact pp hN hc
  have key : Ts < 0 ∧ 0 < Tt ∧ 0 ≤ Tt * ls - Ts * lt := by
    rcases Int.lt_or_gt_of_ne h0 with hls | hls
    · have hlt : 0 < lt := by
        have h1 := pp (x := ct) (y := -ls) ht (by omega)
        rw [Int.mul_neg] at h1
        refine of_pp (x := -cs) (by omega) ?_
        rw [Int.neg_mul]; omega
      have hf := hfst hls hlt
      have hq : 0 ≤ Tt * ls - Ts * lt := by
        have : lt * Ts - ls * Tt ≤ 0 := by rw [I3, Int.mul_comm (lt - ls)]; omega
        rw [Int.mul_comm Tt, Int.mul_comm Ts]; omega
      refine ⟨?_, ?_, hq⟩
      · -- D * Ts = -cs * (lt Ts - ls Tt) + ls * Ty
        have h1 := pn (x := -cs) (y := Tt * ls - Ts * lt) (by omega) hq
        have h2 := pp (x := -ls) (y := ct * Ts - cs * Tt) (by omega) hy
        have h3 : 0 < (ct * ls - cs * lt) * -Ts := by
          have : (ct * ls - cs * lt) * -Ts = -cs * (Tt * ls - Ts * lt) + -ls * (ct * Ts - cs * Tt) := by grind
          omega
        have := of_pp hD h3
        omega
      · have h1 := pn (x := ct) (y := Tt * ls - Ts * lt) ht hq
        have h2 := pp (x := lt) (y := ct * Ts - cs * Tt) hlt hy
        have h3 : 0 < (ct * ls - cs * lt) * Tt := by
          have : (ct * ls - cs * lt) * Tt = ct * (Tt * ls - Ts * lt) + lt * (ct * Ts - cs * Tt) := by grind
          omega
        exact of_pp hD h3
    · have hTs := hmin hls
      have h1 := pp (x := ct) (y := -Ts) ht (by omega)
      have hTt : 0 < Tt := by
        refine of_pp (x := -cs) (by omega) ?_
        rw [Int.neg_mul]; rw [Int.mul_neg] at h1; omega
      refine ⟨hTs, hTt, ?_⟩
      have h3 : 0 < -cs * (Tt * ls - Ts * lt) := by
        have e : -cs * (Tt * ls - Ts * lt) = (ct * Ts - cs * Tt) * ls + -Ts * (ct * ls - cs * lt) := by grind
        have h4 := pp hy hls
        have h5 := pp (x := -Ts) (by omega) hD
        omega
      have := of_pp (x := -cs) (by omega) h3
      omega
  obtain ⟨k1, k2, k3⟩ := key
  have hi : 0 < -(Uv * P) := by
    refine of_pp hc ?_
    rw [← m2, I4]
    have h1 := pp hy hv
    have h2 := Int.mul_nonneg k3 hcv
    omega
  have hUv : Uv < 0 := by
    have := of_pp (x := P) (y := -Uv) hP (by rw [Int.mul_neg, Int.mul_comm]; exact hi)
    omega
  refine ⟨k1, k2, ?_, hUv⟩
  have h1 := pp (x := -Uv) (y := -lu) (by omega) (by omega)
  rw [Int.neg_mul_neg] at h1
  refine of_pp hv ?_
  rw [Int.mul_comm]
  omega
end Go.Proofs.Ytkifapcegiajiaa
/- Plain law: two points between which no wall goes lie on the same side of every closed way of walls. Conditions: small points. -/
namespace Go.Proofs.Ytkifapcegiajiaa
open Go.RowKit
set_option linter.unusedVariables false

theorem mneg {x y : Int} (h : 0 < x) (k : y < 0) : x * y < 0 := Int.mul_neg_of_pos_of_neg h k
theorem of_pn {x y : Int} (h : 0 < x) (k : x * y < 0) : y < 0 := by
  rcases Int.lt_or_le y 0 with h1 | h1
  · exact h1
  · have := Int.mul_nonneg (a := x) (b := y) (by omega) h1; omega
/-- What four points of the plane tell of each other. -/
structure Four (sY tY AY BY hA hB gs gt : Int) : Prop where
  iA : gt * (sY - AY) - gs * (tY - AY) = hA * (BY - AY)
  iB : gt * (sY - BY) - gs * (tY - BY) = hB * (BY - AY)
  is : hA * (BY - sY) - hB * (AY - sY) = -gs * (tY - sY)
  it : hA * (BY - tY) - hB * (AY - tY) = -gt * (tY - sY)
theorem Four.neg {sY tY AY BY hA hB gs gt : Int} (h : Four sY tY AY BY hA hB gs gt) : Four sY tY AY BY (-hA) (-hB) (-gs) (-gt) := by
  obtain ⟨h1, h2, h3, h4⟩ := h
  refine ⟨?_, ?_, ?_, ?_⟩ <;> grind
section
variable {sY tY AY BY hA hB gs gt : Int} (F : Four sY tY AY BY hA hB gs gt)
include F
theorem span_bad (h1 : sY ≤ AY) (h2 : BY < tY) (hAB : AY ≤ BY) (p1 : 0 < hA) (p2 : hB < 0) (nh : ¬(AY = BY ∧ sY = AY)) : gs < 0 ∧ 0 < gt := by
  have ht : 0 < tY - sY := by omega
  constructor
  · have a1 := pn (x := hA) (y := BY - sY) p1 (by omega)
    have a2 := pn (x := -hB) (y := AY - sY) (by omega) (by omega)
    have a3 : 0 < hA * (BY - sY) - hB * (AY - sY) := by
      rw [Int.neg_mul] at a2
      rcases Int.lt_or_le sY BY with h | h
      · have := pp (x := hA) (y := BY - sY) p1 (by omega); omega
      · omega
    rw [F.is] at a3
    have := of_pp (x := tY - sY) (y := -gs) ht (by rw [Int.mul_comm]; exact a3)
    omega
  · have a1 := mneg (x := hA) (y := BY - tY) p1 (by omega)
    have a2 := mneg (x := -hB) (y := AY - tY) (by omega) (by omega)
    rw [Int.neg_mul] at a2
    have a3 : hA * (BY - tY) - hB * (AY - tY) < 0 := by omega
    rw [F.it] at a3
    have := of_pn (x := tY - sY) (y := -gt) ht (by rw [Int.mul_comm]; exact a3)
    omega
theorem low_bad (h1 : sY ≤ AY) (h2 : AY < tY) (h3 : tY ≤ BY) (p1 : 0 < hA) (p2 : 0 < gt) : hB < 0 ∧ gs < 0 := by
  constructor
  · have a1 := pn (x := hA) (y := BY - tY) p1 (by omega)
    have a2 := mneg (x := tY - sY) (y := -gt) (by omega) (by omega)
    have a4 := F.it
    rw [Int.mul_comm (-gt)] at a4
    have := of_pn (x := tY - AY) (y := hB) (by omega) (by
      have : (tY - AY) * hB = -(hB * (AY - tY)) := by grind
      omega)
    exact this
  · have a1 := pp (x := hA) (y := BY - AY) p1 (by omega)
    have a2 := pn (x := gt) (y := AY - sY) p2 (by omega)
    have a3 : gt * (AY - sY) = -(gt * (sY - AY)) := by grind
    have a4 := F.iA
    exact of_pn (x := tY - AY) (y := gs) (by omega) (by rw [Int.mul_comm]; omega)
theorem top_bad (h1 : AY < sY) (h2 : sY ≤ BY) (h3 : BY < tY) (p1 : 0 < hB) (p2 : 0 < gs) : hA < 0 ∧ gt < 0 := by
  constructor
  · have a1 := pp (x := hB) (y := sY - AY) p1 (by omega)
    have a2 := mneg (x := tY - sY) (y := -gs) (by omega) (by omega)
    have a3 : hB * (sY - AY) = -(hB * (AY - sY)) := by grind
    have a4 := F.is
    rw [Int.mul_comm (-gs)] at a4
    have a5 : hA * (BY - sY) < 0 := by omega
    have a6 : BY - sY ≠ 0 := fun e => by rw [e, Int.mul_zero] at a5; omega
    exact of_pn (x := BY - sY) (y := hA) (by omega) (by rw [Int.mul_comm]; exact a5)
  · have a1 := pp (x := hB) (y := BY - AY) p1 (by omega)
    have a2 := pp (x := gs) (y := tY - BY) p2 (by omega)
    have a4 := F.iB
    have a5 : 0 < gt * (sY - BY) := by omega
    have a6 : BY - sY ≠ 0 := fun e => by rw [show sY - BY = 0 by omega, Int.mul_zero] at a5; omega
    have a7 : (BY - sY) * gt = -(gt * (sY - BY)) := by grind
    exact of_pn (x := BY - sY) (y := gt) (by omega) (by omega)
theorem in_bad (h1 : AY < sY) (h2 : sY ≤ tY) (h3 : tY ≤ BY) (p1 : gs < 0) (p2 : 0 < gt) (nh : ¬(sY = tY ∧ BY = sY)) : 0 < hA ∧ hB < 0 := by
  constructor
  · have a1 := pp (x := gt) (y := sY - AY) p2 (by omega)
    have a2 := pp (x := -gs) (y := tY - AY) (by omega) (by omega)
    rw [Int.neg_mul] at a2
    have a4 := F.iA
    exact of_pp (x := BY - AY) (by omega) (by rw [Int.mul_comm]; omega)
  · have a1 := pn (x := gt) (y := BY - sY) p2 (by omega)
    have a2 := pn (x := -gs) (y := BY - tY) (by omega) (by omega)
    rw [Int.neg_mul] at a2
    have a3 : gt * (BY - sY) = -(gt * (sY - BY)) := by grind
    have a3' : gs * (BY - tY) = -(gs * (tY - BY)) := by grind
    have a4 := F.iB
    have a5 : gt * (sY - BY) - gs * (tY - BY) < 0 := by
      rcases Int.lt_or_le sY BY with h | h
      · have := pp (x := gt) (y := BY - sY) p2 (by omega); omega
      · exact absurd ⟨by omega, by omega⟩ nh
    exact of_pn (x := BY - AY) (by omega) (by rw [Int.mul_comm]; omega)
/-- One wall: it changes the count of both points, or it goes into the band between them. -/
theorem edge_core (hst : sY ≤ tY) (hAB : AY ≤ BY)
    (nc : ¬ ((gs < 0 ∧ 0 < gt ∨ 0 < gs ∧ gt < 0) ∧ (hA < 0 ∧ 0 < hB ∨ 0 < hA ∧ hB < 0)))
    (ns : AY ≤ sY → sY ≤ BY → AY < BY → gs ≠ 0) (nt : AY ≤ tY → tY ≤ BY → AY < BY → gt ≠ 0)
    (nA : sY ≤ AY → AY ≤ tY → sY < tY → hA ≠ 0) (nB : sY ≤ BY → BY ≤ tY → sY < tY → hB ≠ 0)
    (nh : AY = BY → sY = AY → sY < tY → ¬(0 < hA ∧ hB < 0) ∧ ¬(hA < 0 ∧ 0 < hB))
    (nk : sY = tY → BY = sY → AY < BY → ¬(gs < 0 ∧ 0 < gt) ∧ ¬(0 < gs ∧ gt < 0)) :
    ((sY ≤ AY ∧ AY < tY ∧ 0 < hA) ↔ (sY ≤ BY ∧ BY < tY ∧ 0 < hB)) ↔ ((AY < sY ∧ sY ≤ BY ∧ gs < 0) ↔ (AY < tY ∧ tY ≤ BY ∧ gt < 0)) := by
  have G := F.neg
  by_cases c1 : sY ≤ AY
  · by_cases c2 : AY < tY
    · by_cases c3 : BY < tY
      · have n1 := nA c1 (by omega) (by omega)
        have n2 := nB (by omega) (by omega) (by omega)
        have k1 : ¬(0 < hA ∧ hB < 0) := fun ⟨p, q⟩ => by
          by_cases e : AY = BY ∧ sY = AY
          · exact (nh e.1 e.2 (by omega)).1 ⟨p, q⟩
          · exact nc ⟨.inl (span_bad F c1 c3 hAB p q e), .inr ⟨p, q⟩⟩
        have k2 : ¬(hA < 0 ∧ 0 < hB) := fun ⟨p, q⟩ => by
          by_cases e : AY = BY ∧ sY = AY
          · exact (nh e.1 e.2 (by omega)).2 ⟨p, q⟩
          · have := span_bad G c1 c3 hAB (by omega) (by omega) e
            exact nc ⟨.inr (by omega), .inl ⟨p, q⟩⟩
        omega
      · have n1 := nA c1 (by omega) (by omega)
        have n2 := nt (by omega) (by omega) (by omega)
        have k1 : ¬(0 < hA ∧ 0 < gt) := fun ⟨p, q⟩ => by
          have := low_bad F c1 c2 (by omega) p q
          exact nc ⟨.inl (by omega), .inr (by omega)⟩
        have k2 : ¬(hA < 0 ∧ gt < 0) := fun ⟨p, q⟩ => by
          have := low_bad G c1 c2 (by omega) (by omega) (by omega)
          exact nc ⟨.inr (by omega), .inl (by omega)⟩
        omega
    · omega
  · by_cases c2 : sY ≤ BY
    · by_cases c3 : BY < tY
      · have n1 := nB (by omega) (by omega) (by omega)
        have n2 := ns (by omega) (by omega) (by omega)
        have k1 : ¬(0 < hB ∧ 0 < gs) := fun ⟨p, q⟩ => by
          have := top_bad F (by omega) c2 c3 p q
          exact nc ⟨.inr (by omega), .inl (by omega)⟩
        have k2 : ¬(hB < 0 ∧ gs < 0) := fun ⟨p, q⟩ => by
          have := top_bad G (by omega) c2 c3 (by omega) (by omega)
          exact nc ⟨.inl (by omega), .inr (by omega)⟩
        omega
      · have n1 := ns (by omega) (by omega) (by omega)
        have n2 := nt (by omega) (by omega) (by omega)
        have k1 : ¬(gs < 0 ∧ 0 < gt) := fun ⟨p, q⟩ => by
          by_cases e : sY = tY ∧ BY = sY
          · exact (nk e.1 e.2 (by omega)).1 ⟨p, q⟩
          · have := in_bad F (by omega) hst (by omega) p q e
            exact nc ⟨.inl ⟨p, q⟩, .inr this⟩
        have k2 : ¬(0 < gs ∧ gt < 0) := fun ⟨p, q⟩ => by
          by_cases e : sY = tY ∧ BY = sY
          · exact (nk e.1 e.2 (by omega)).2 ⟨p, q⟩
          · have := in_bad G (by omega) hst (by omega) (by omega) (by omega) e
            exact nc ⟨.inr ⟨p, q⟩, .inl (by omega)⟩
        omega
    · omega
end
theorem oppo_iff (x y : Int) : oppo x y = true ↔ (x < 0 ∧ 0 < y ∨ 0 < x ∧ y < 0) := by
  unfold oppo sgn
  rw [decide_eq_true_iff]
  split <;> split <;> (try split) <;> (try split) <;> simp [IntWalk.wrap64_in] <;> omega
theorem four_of (s t A B : T2) : Four s.b t.b A.b B.b (turnZ s t A) (turnZ s t B) (turnZ A B s) (turnZ A B t) := by
  refine ⟨?_, ?_, ?_, ?_⟩ <;> (unfold turnZ; grind)
/-- Behind the way from A to B, and in its band. -/
def band (A B x : T2) : Bool := (decide (A.b < x.b) && decide (x.b ≤ B.b) && decide (turnZ A B x < 0)) || (decide (B.b < x.b) && decide (x.b ≤ A.b) && decide (0 < turnZ A B x))
theorem band_swap (A B x : T2) : band B A x = band A B x := by
  unfold band
  rw [turnZ_swap, Bool.or_comm]
  congr 1 <;> congr 1 <;> (rw [decide_eq_decide]; omega)
theorem fS_swap {s t p : T2} (hs : small s) (ht : small t) (hp : small p) : fS t s p = fS s t p := by
  unfold fS
  rw [turn_swap hs ht hp, Bool.or_comm]
  congr 1 <;> congr 1 <;> (rw [decide_eq_decide]; omega)
/-- Two points and a wall that does not touch the way between them. -/
structure Apart4 (s t A B : T2) : Prop where
  hs : small s
  ht : small t
  hA : small A
  hB : small B
  nc : crossP A B s t = false
  ns : onP s A B = false
  nt : onP t A B = false
  nA : onP A s t = false
  nB : onP B s t = false
theorem Apart4.swapW {s t A B : T2} (h : Apart4 s t A B) : Apart4 t s A B :=
  ⟨h.ht, h.hs, h.hA, h.hB, by rw [crossP_symm, crossP_swap h.hs h.ht h.hA h.hB, crossP_symm]; exact h.nc, h.nt, h.ns, by rw [onP_swap h.hA h.ht h.hs]; exact h.nA, by rw [onP_swap h.hB h.ht h.hs]; exact h.nB⟩
theorem Apart4.swapP {s t A B : T2} (h : Apart4 s t A B) : Apart4 s t B A :=
  ⟨h.hs, h.ht, h.hB, h.hA, by rw [crossP_swap h.hA h.hB h.hs h.ht]; exact h.nc, by rw [onP_swap h.hs h.hB h.hA]; exact h.ns, by rw [onP_swap h.ht h.hB h.hA]; exact h.nt, h.nB, h.nA⟩
theorem not_on {p a b : T2} (hp : small p) (ha : small a) (hb : small b) (h : onP p a b = false) : ¬(turnZ a b p = 0 ∧ inBox p a b) := fun h1 => by
  rw [(onP_small hp ha hb).2 h1] at h; cases h
theorem box_of {a b p : T2} (h0 : turnZ a b p = 0) (h1 : a.b ≤ p.b) (h2 : p.b ≤ b.b) (h3 : a.b < b.b) : inBox p a b := by
  rcases Int.lt_or_le p.b b.b with h | h
  · exact on_of_zero h0 (.inl ⟨h1, h⟩)
  · have e : p.b = b.b := by omega
    have : p.a = b.a := by
      unfold turnZ at h0
      rw [e] at h0
      have h4 : (b.b - a.b) * (p.a - b.a) = 0 := by grind
      rcases Int.mul_eq_zero.1 h4 with h5 | h5 <;> omega
    unfold inBox; omega
theorem edge_dir {s t A B : T2} (h : Apart4 s t A B) (hst : s.b ≤ t.b) (hAB : A.b ≤ B.b) : xor (fS s t A) (fS s t B) = xor (band A B s) (band A B t) := by
  have F := four_of s t A B
  have key := edge_core F hst hAB
    (fun hc => by
      have : crossP A B s t = true := by
        unfold crossP
        rw [turn_small h.hA h.hB h.hs, turn_small h.hA h.hB h.ht, turn_small h.hs h.ht h.hA, turn_small h.hs h.ht h.hB, Bool.and_eq_true, oppo_iff, oppo_iff]
        exact hc
      rw [h.nc] at this; cases this)
    (fun h1 h2 h3 e => not_on h.hs h.hA h.hB h.ns ⟨e, box_of e h1 h2 h3⟩)
    (fun h1 h2 h3 e => not_on h.ht h.hA h.hB h.nt ⟨e, box_of e h1 h2 h3⟩)
    (fun h1 h2 h3 e => not_on h.hA h.hs h.ht h.nA ⟨e, box_of e h1 h2 h3⟩)
    (fun h1 h2 h3 e => not_on h.hB h.hs h.ht h.nB ⟨e, box_of e h1 h2 h3⟩)
    (fun e1 e2 h3 => by
      have q1 : turnZ s t A = (t.b - s.b) * (s.a - A.a) := by unfold turnZ; rw [e2]; grind
      have q2 : turnZ s t B = (t.b - s.b) * (s.a - B.a) := by unfold turnZ; rw [e2, e1]; grind
      have q3 : turnZ A B s = 0 := by unfold turnZ; rw [e2, e1]; grind
      have h4 : 0 < t.b - s.b := by omega
      constructor
      · intro ⟨p, q⟩
        rw [q1] at p; rw [q2] at q
        have := of_pp h4 p
        have := of_pn h4 q
        exact not_on h.hs h.hA h.hB h.ns ⟨q3, by unfold inBox; omega⟩
      · intro ⟨p, q⟩
        rw [q1] at p; rw [q2] at q
        have := of_pn h4 p
        have := of_pp h4 q
        exact not_on h.hs h.hA h.hB h.ns ⟨q3, by unfold inBox; omega⟩)
    (fun e1 e2 h3 => by
      have q1 : turnZ A B s = (B.b - A.b) * (B.a - s.a) := by unfold turnZ; rw [← e2]; grind
      have q2 : turnZ A B t = (B.b - A.b) * (B.a - t.a) := by unfold turnZ; rw [← e1, ← e2]; grind
      have q3 : turnZ s t B = 0 := by unfold turnZ; rw [e2, e1]; grind
      have h4 : 0 < B.b - A.b := by omega
      constructor
      · intro ⟨p, q⟩
        rw [q1] at p; rw [q2] at q
        have := of_pn h4 p
        have := of_pp h4 q
        exact not_on h.hB h.hs h.ht h.nB ⟨q3, by unfold inBox; omega⟩
      · intro ⟨p, q⟩
        rw [q1] at p; rw [q2] at q
        have := of_pp h4 p
        have := of_pn h4 q
        exact not_on h.hB h.hs h.ht h.nB ⟨q3, by unfold inBox; omega⟩)
  have fs : ∀ p, small p → (fS s t p = true ↔ (s.b ≤ p.b ∧ p.b < t.b ∧ 0 < turnZ s t p)) := fun p hp => by
    unfold fS
    rw [turn_small h.hs h.ht hp]
    simp only [Bool.or_eq_true, Bool.and_eq_true, decide_eq_true_iff]
    omega
  have gs : ∀ x, (band A B x = true ↔ (A.b < x.b ∧ x.b ≤ B.b ∧ turnZ A B x < 0)) := fun x => by
    unfold band
    simp only [Bool.or_eq_true, Bool.and_eq_true, decide_eq_true_iff]
    omega
  rw [← fs A h.hA, ← fs B h.hB, ← gs s, ← gs t] at key
  generalize fS s t A = b1 at *
  generalize fS s t B = b2 at *
  generalize band A B s = b3 at *
  generalize band A B t = b4 at *
  revert key
  cases b1 <;> cases b2 <;> cases b3 <;> cases b4 <;> simp
theorem edge_par {s t A B : T2} (h : Apart4 s t A B) : xor (fS s t A) (fS s t B) = xor (band A B s) (band A B t) := by
  rcases Int.le_total s.b t.b with h1 | h1 <;> rcases Int.le_total A.b B.b with h2 | h2
  · exact edge_dir h h1 h2
  · have := edge_dir h.swapP h1 h2
    rw [band_swap A B s, band_swap A B t, Bool.xor_comm] at this; exact this
  · have := edge_dir h.swapW h1 h2
    rw [fS_swap h.hs h.ht h.hA, fS_swap h.hs h.ht h.hB, Bool.xor_comm (band A B t)] at this; exact this
  · have := edge_dir h.swapW.swapP h1 h2
    rw [fS_swap h.hs h.ht h.hA, fS_swap h.hs h.ht h.hB, band_swap A B s, band_swap A B t, Bool.xor_comm, Bool.xor_comm (band A B t)] at this; exact this
theorem par_xor (p q : Nat → Bool) : ∀ n, xor (parN p n) (parN q n) = parN (fun k => xor (p k) (q k)) n
  | 0 => rfl
  | n + 1 => by
    simp only [parN]
    rw [← par_xor p q n]
    cases parN p n <;> cases parN q n <;> cases p n <;> cases q n <;> rfl
theorem par_tel (r : Nat → Bool) : ∀ n, parN (fun k => xor (r k) (r (k + 1))) n = xor (r 0) (r n)
  | 0 => by simp [parN]
  | n + 1 => by
    simp only [parN]
    rw [par_tel r n]
    cases r 0 <;> cases r n <;> cases r (n + 1) <;> rfl
theorem par_cyc (r : Nat → Bool) {n : Nat} (hn : 0 < n) : parN (fun k => xor (r k) (r (nx n k))) n = false := by
  obtain ⟨m, rfl⟩ : ∃ m, n = m + 1 := ⟨n - 1, by omega⟩
  show xor (parN _ m) _ = false
  rw [parN_congr (q := fun k => xor (r k) (r (k + 1))) m (fun j hj => by
    show xor (r j) (r (nx (m + 1) j)) = _
    unfold nx; rw [Nat.mod_eq_of_lt (by omega)]), par_tel]
  show xor (xor (r 0) (r m)) (xor (r m) (r (nx (m + 1) m))) = false
  unfold nx
  rw [Nat.mod_self]
  cases r 0 <;> cases r m <;> rfl
/-- Points with nothing between them have the same place. -/
theorem par_same {L : List T2} (hn : 0 < L.length) {A B : T2} (h : ∀ j, j < L.length → Apart4 (at2 L j) (nxt L j) A B) : parN (flipS L A) L.length = parN (flipS L B) L.length := by
  have h1 : xor (parN (flipS L A) L.length) (parN (flipS L B) L.length) = false := by
    have h2 : parN (fun k => xor (flipS L A k) (flipS L B k)) L.length = parN (fun k => xor (band A B (at2 L k)) (band A B (at2 L (nx L.length k)))) L.length := parN_congr _ (fun j hj => edge_par (h j hj))
    rw [par_xor, h2]
    exact par_cyc (fun k => band A B (at2 L k)) hn
  revert h1
  cases parN (flipS L A) L.length <;> cases parN (flipS L B) L.length <;> simp
end Go.Proofs.Ytkifapcegiajiaa
/- Plain law: every point of the floor of a valid room sees a corner. Condition: a valid room. -/
namespace Go.Proofs.Ytkifapcegiajiaa
open Go.RowKit
set_option linter.unusedVariables false

theorem least_of {α : Type} (P : α → Prop) (le : α → α → Prop) (tot : ∀ x y, P x → P y → le x y ∨ le y x) (tr : ∀ x y z, P x → P y → P z → le x y → le y z → le x z) :
    ∀ l : List α, (∃ x, x ∈ l ∧ P x) → ∃ m, m ∈ l ∧ P m ∧ ∀ x, x ∈ l → P x → le m x
  | [], h => by obtain ⟨x, h, _⟩ := h; cases h
  | a :: l, h => by
    have self : ∀ x, P x → le x x := fun x px => by rcases tot x x px px with h | h <;> exact h
    by_cases hl : ∃ x, x ∈ l ∧ P x
    · obtain ⟨m, hm, pm, hle⟩ := least_of P le tot tr l hl
      by_cases ha : P a
      · rcases tot a m ha pm with h1 | h1
        · refine ⟨a, List.mem_cons_self, ha, fun x hx px => ?_⟩
          rcases List.mem_cons.1 hx with e | hx
          · rw [e]; exact self a ha
          · exact tr a m x ha pm px h1 (hle x hx px)
        · refine ⟨m, List.mem_cons_of_mem _ hm, pm, fun x hx px => ?_⟩
          rcases List.mem_cons.1 hx with e | hx
          · rw [e]; exact h1
          · exact hle x hx px
      · refine ⟨m, List.mem_cons_of_mem _ hm, pm, fun x hx px => ?_⟩
        rcases List.mem_cons.1 hx with e | hx
        · rw [e] at px; exact absurd px ha
        · exact hle x hx px
    · obtain ⟨x, hx, px⟩ := h
      rcases List.mem_cons.1 hx with e | hx
      · rw [e] at px
        refine ⟨a, List.mem_cons_self, px, fun y hy py => ?_⟩
        rcases List.mem_cons.1 hy with e | hy
        · rw [e]; exact self a px
        · exact absurd ⟨y, hy, py⟩ hl
      · exact absurd ⟨x, hx, px⟩ hl
theorem t2_ext {p q : T2} (h1 : p.a = q.a) (h2 : p.b = q.b) : p = q := by cases p; cases q; dsimp only at h1 h2; rw [h1, h2]
theorem nn_of {x y : Int} (h : 0 < x) (k : 0 ≤ x * y) : 0 ≤ y := by
  rcases Int.lt_or_le y 0 with h1 | h1
  · have := mneg h h1; omega
  · exact h1
/-- A point far to the right and a little above: no corner of a room lies on that line. -/
def eye (a : T2) : T2 := ⟨a.a + 1000, a.b + 1⟩
theorem eye_val (a p : T2) : turnZ a (eye a) p = 1000 * (p.b - a.b) - (p.a - a.a) := by
  unfold turnZ eye
  dsimp only
  rw [show a.a + 1000 - a.a = 1000 by omega, show a.b + 1 - a.b = 1 by omega, Int.one_mul]
def hit (a : T2) (x : T2 × T2) : Prop := turnZ a (eye a) x.1 < 0 ∧ 0 < turnZ a (eye a) x.2 ∧ 0 < turnZ a x.1 x.2
def leH (a : T2) (x y : T2 × T2) : Prop := turnZ a x.1 x.2 * (turnZ a (eye a) y.2 - turnZ a (eye a) y.1) ≤ turnZ a y.1 y.2 * (turnZ a (eye a) x.2 - turnZ a (eye a) x.1)
theorem first_hit (a : T2) (l : List (T2 × T2)) (h : ∃ x, x ∈ l ∧ hit a x) : ∃ m, m ∈ l ∧ hit a m ∧ ∀ x, x ∈ l → hit a x → leH a m x := by
  refine least_of (hit a) (leH a) (fun x y _ _ => ?_) (fun x y z hx hy hz h1 h2 => ?_) l h
  · unfold leH; exact Int.le_total _ _
  · unfold leH hit at *
    obtain ⟨x1, x2, _⟩ := hx
    obtain ⟨y1, y2, _⟩ := hy
    obtain ⟨z1, z2, _⟩ := hz
    generalize turnZ a x.1 x.2 = Px at *
    generalize turnZ a y.1 y.2 = Py at *
    generalize turnZ a z.1 z.2 = Pz at *
    obtain ⟨Wx, ex⟩ : ∃ W, W = turnZ a (eye a) x.2 - turnZ a (eye a) x.1 := ⟨_, rfl⟩
    obtain ⟨Wy, ey⟩ : ∃ W, W = turnZ a (eye a) y.2 - turnZ a (eye a) y.1 := ⟨_, rfl⟩
    obtain ⟨Wz, ez⟩ : ∃ W, W = turnZ a (eye a) z.2 - turnZ a (eye a) z.1 := ⟨_, rfl⟩
    have wx : 0 < Wx := by omega
    have wy : 0 < Wy := by omega
    have wz : 0 < Wz := by omega
    rw [← ex, ← ey] at h1
    rw [← ey, ← ez] at h2
    rw [← ex, ← ez]
    have a1 := pn (x := Wx) (y := Pz * Wy - Py * Wz) wx (by omega)
    have a2 := pn (x := Wz) (y := Py * Wx - Px * Wy) wz (by omega)
    have a3 : Wy * (Pz * Wx - Px * Wz) = Wx * (Pz * Wy - Py * Wz) + Wz * (Py * Wx - Px * Wy) := by grind
    have := nn_of (x := Wy) (y := Pz * Wx - Px * Wz) wy (by omega)
    omega
def okC (a u v c : T2) : Prop := 0 < turnZ a (eye a) c ∧ 0 ≤ turnZ u v c
def leC (a c x : T2) : Prop := 0 < turnZ a c x ∨ (turnZ a c x = 0 ∧ turnZ a (eye a) c ≤ turnZ a (eye a) x)
theorem first_corner (a u v : T2) (l : List T2) (h : ∃ x, x ∈ l ∧ okC a u v x) : ∃ m, m ∈ l ∧ okC a u v m ∧ ∀ x, x ∈ l → okC a u v x → leC a m x := by
  refine least_of (okC a u v) (leC a) (fun x y _ _ => ?_) (fun x y z hx hy hz h1 h2 => ?_) l h
  · unfold leC
    rw [turn_rev a x y]
    omega
  · have e := plu a (eye a) y x z
    unfold leC okC at *
    obtain ⟨x1, _⟩ := hx
    obtain ⟨y1, _⟩ := hy
    obtain ⟨z1, _⟩ := hz
    generalize turnZ a (eye a) x = lx at *
    generalize turnZ a (eye a) y = ly at *
    generalize turnZ a (eye a) z = lz at *
    generalize turnZ a x y = xy at *
    generalize turnZ a y z = yz at *
    generalize turnZ a x z = xz at *
    rcases h1 with h1 | ⟨h1, g1⟩
    · have a1 := pp h1 z1
      have a2 := pn (x := lx) (y := yz) x1 (by omega)
      exact .inl (of_pp y1 (by omega))
    · rw [h1, Int.zero_mul, Int.zero_add] at e
      rcases h2 with h2 | ⟨h2, g2⟩
      · have a2 := pp x1 h2
        exact .inl (of_pp y1 (by omega))
      · rw [h2, Int.mul_zero] at e
        rcases Int.mul_eq_zero.1 e with h3 | h3
        · omega
        · exact .inr ⟨h3, by omega⟩
theorem mid_val {p q : T2} (hp : pokT p = true) (hq : pokT q = true) : midP p q = ⟨p.a + q.a, p.b + q.b⟩ := by
  have b1 := pok_bd hp
  have b2 := pok_bd hq
  unfold midP
  rw [IntWalk.wrap64_in _ (by omega), IntWalk.wrap64_in _ (by omega)]
theorem par_none {p : Nat → Bool} : ∀ n, (∀ j, j < n → p j = false) → parN p n = false
  | 0, _ => rfl
  | n + 1, h => by rw [parN_no (h n (by omega)), par_none n (fun j hj => h j (by omega))]
section
variable {L : List T2}
/-- The way has no corners on it, no wall crosses it, and its middle is not outside. -/
theorem sees_of (hr : RoomP L) {a c : T2} (hac : a ≠ c) (ha : small a) (hc : small c) (h1 : ∀ j, j < L.length → crossP a c (at2 L j) (nxt L j) = false) (h2 : ∀ i, i < L.length → cutF L a c i = false) (h3 : ¬ holdsS (dblL L) (midP a c) < 0) : seesS L a c = true := by
  rw [sees_iff hr hac ha hc]
  constructor
  · unfold noCross
    rw [allN_iff]
    intro j hj
    rw [h1 j hj]; rfl
  · have hmem : ∀ x, x ∈ cutsL L a c L.length → x = a ∨ x = c := fun x hx => by
      rcases cuts_iff.1 hx with h | h | ⟨i, hi, _, h⟩
      · exact .inl h
      · exact .inr h
      · rw [h2 i hi] at h; cases h
    intro p hp q hq hne _
    rcases hmem p hp with e1 | e1 <;> rcases hmem q hq with e2 | e2
    · exact absurd (e1.trans e2.symm) hne
    · rw [e1, e2]; exact h3
    · rw [e1, e2, midP_symm]; exact h3
    · exact absurd (e1.trans e2.symm) hne
/-- A point on the way, measured. -/
theorem on_way {a c x : T2} (hac : a ≠ c) (h0 : turnZ a c x = 0) (hb : inBox x a c) (hxa : x ≠ a) (hxc : x ≠ c) : 0 < dd2 a c ∧ 0 < tt a c x ∧ tt a c x < dd2 a c := by
  have hd := dd2_pos hac
  have h1 := tt_pos hb
  have hb' : inBox x c a := by unfold inBox at *; omega
  have h2 := tt_pos hb'
  have e : tt c a x = dd2 a c - tt a c x := by unfold tt dd2; grind
  have n1 : tt a c x ≠ 0 := fun e1 => hxa (tt_inj hac h0 (turnZ_a a c) (by rw [e1]; unfold tt; grind))
  have n2 : tt a c x ≠ dd2 a c := fun e1 => hxc (tt_inj hac h0 (turnZ_b a c) (by rw [e1]; unfold tt dd2; rfl))
  omega
theorem lin_at {a c x : T2} (h0 : turnZ a c x = 0) (u v : T2) : dd2 a c * turnZ u v x = (dd2 a c - tt a c x) * turnZ u v a + tt a c x * turnZ u v c := by
  obtain ⟨e1, e2⟩ := tt_a h0
  have e : dd2 a c * turnZ u v x = dd2 a c * turnZ u v a + (v.a - u.a) * (dd2 a c * (x.b - a.b)) - (v.b - u.b) * (dd2 a c * (x.a - a.a)) := by
    generalize dd2 a c = D
    unfold turnZ; grind
  rw [e, e1, e2]
  generalize dd2 a c = D
  generalize tt a c x = m
  unfold turnZ; grind
def sidesL (L : List T2) : List (T2 × T2) := (List.range L.length).map (fun j => (at2 L j, nxt L j)) ++ (List.range L.length).map (fun j => (nxt L j, at2 L j))
theorem sides_iff {x : T2 × T2} : x ∈ sidesL L ↔ ∃ j, j < L.length ∧ (x = (at2 L j, nxt L j) ∨ x = (nxt L j, at2 L j)) := by
  unfold sidesL
  rw [List.mem_append, List.mem_map, List.mem_map]
  constructor
  · rintro (⟨j, hj, rfl⟩ | ⟨j, hj, rfl⟩)
    · exact ⟨j, by simpa using hj, .inl rfl⟩
    · exact ⟨j, by simpa using hj, .inr rfl⟩
  · rintro ⟨j, hj, rfl | rfl⟩
    · exact .inl ⟨j, by simpa using hj, rfl⟩
    · exact .inr ⟨j, by simpa using hj, rfl⟩
theorem sides_pok (hr : RoomP L) {x : T2 × T2} (hx : x ∈ sidesL L) : pokT x.1 = true ∧ pokT x.2 = true ∧ (∃ i, i < L.length ∧ x.1 = at2 L i) ∧ (∃ i, i < L.length ∧ x.2 = at2 L i) := by
  obtain ⟨j, hj, rfl | rfl⟩ := sides_iff.1 hx
  · exact ⟨hr.pok j hj, pok_nxt hr hj, ⟨j, hj, rfl⟩, ⟨_, nx_lt hj, rfl⟩⟩
  · exact ⟨pok_nxt hr hj, hr.pok j hj, ⟨_, nx_lt hj, rfl⟩, ⟨j, hj, rfl⟩⟩
theorem sides_cross (h : roomS L = true) {x y : T2 × T2} (hx : x ∈ sidesL L) (hy : y ∈ sidesL L) : crossP x.1 x.2 y.1 y.2 = false := by
  have hr := roomP_of h
  obtain ⟨k, hk, ex⟩ := sides_iff.1 hx
  obtain ⟨j, hj, ey⟩ := sides_iff.1 hy
  have sk := hr.small k hk
  have sk' : small (nxt L k) := hr.small _ (nx_lt hk)
  have sj := hr.small j hj
  have sj' : small (nxt L j) := hr.small _ (nx_lt hj)
  have := wall_cross h hk hj
  rcases ex with rfl | rfl <;> rcases ey with rfl | rfl <;> dsimp only
  · exact this
  · rw [crossP_symm, crossP_swap sj sj' sk sk', crossP_symm]; exact this
  · rw [crossP_swap sk sk' sj sj']; exact this
  · rw [crossP_swap sk sk' sj' sj, crossP_symm, crossP_swap sj sj' sk sk', crossP_symm]; exact this
/-- From a point inside. -/
theorem inner_sees (h : roomS L = true) {a : T2} (ha : pokT a = true) (hp : placeI L a = 2) : ∃ k, k < L.length ∧ seesS L a (at2 L k) = true := by
  have hr := roomP_of h
  have hlo := hr.lo
  have sa := small_pok ha
  have ba := pok_bd ha
  have hh : holdsS L a = 1 := by have := place_holds (fun j hj => hr.small j hj) sa (L := L) (p := a); omega
  have hoff : offW L a = true := by
    cases ho : offW L a
    · unfold holdsS at hh; rw [ho] at hh; simp at hh
    · rfl
  have hpar : parN (flipS L a) L.length = true := by
    cases ho : parN (flipS L a) L.length
    · unfold holdsS at hh; rw [hoff, ho] at hh; simp at hh
    · rfl
  have hne : ∀ j, j < L.length → at2 L j ≠ a := fun j hj e => by
    have := place_corner hr hj; rw [e, hp] at this; omega
  have hgen : ∀ j, j < L.length → turnZ a (eye a) (at2 L j) ≠ 0 := fun j hj e => by
    have b := pok_bd (hr.pok j hj)
    rw [eye_val] at e
    refine hne j hj ?_
    have e1 : (at2 L j).b = a.b := by omega
    have e2 : (at2 L j).a = a.a := by omega
    cases hx : at2 L j; cases a
    rw [hx] at e1 e2
    dsimp only at e1 e2
    rw [e1, e2]
  -- the first wall to the right
  have hex : ∃ x, x ∈ sidesL L ∧ hit a x := by
    by_cases hf : ∃ j, j < L.length ∧ flipS L a j = true
    · obtain ⟨j, hj, hf⟩ := hf
      have b1 := pok_bd (hr.pok j hj)
      have b2 := pok_bd (pok_nxt hr hj)
      have s1 := hr.small j hj
      have s2 : small (nxt L j) := hr.small _ (nx_lt hj)
      unfold flipS fS at hf
      rw [turn_small s1 s2 sa] at hf
      simp only [Bool.or_eq_true, Bool.and_eq_true, decide_eq_true_iff] at hf
      have low : ∀ s t : T2, (-40 ≤ s.a ∧ s.a ≤ 40) → (-40 ≤ t.a ∧ t.a ≤ 40) → s.b ≤ a.b → a.b < t.b → 0 < turnZ s t a → hit a (s, t) := fun s t bs bt q1 q2 q3 => by
        refine ⟨?_, ?_, ?_⟩
        · show turnZ a (eye a) s < 0
          rw [eye_val]
          rcases Int.lt_or_le s.b a.b with g | g
          · omega
          · have e : s.b = a.b := by omega
            have e2 : turnZ s t a = (t.b - s.b) * (s.a - a.a) := by unfold turnZ; rw [e]; grind
            rw [e2] at q3
            have := of_pp (x := t.b - s.b) (by omega) q3
            omega
        · show 0 < turnZ a (eye a) t
          rw [eye_val]; omega
        · show 0 < turnZ a s t
          rw [turn_cyc]; exact q3
      rcases hf with ⟨⟨q1, q2⟩, q3⟩ | ⟨⟨q1, q2⟩, q3⟩
      · exact ⟨_, sides_iff.2 ⟨j, hj, .inl rfl⟩, low _ _ b1.1 b2.1 q1 q2 q3⟩
      · exact ⟨_, sides_iff.2 ⟨j, hj, .inr rfl⟩, low _ _ b2.1 b1.1 q1 q2 (by rw [turnZ_swap]; omega)⟩
    · rw [par_none _ (fun j hj => by
        cases e : flipS L a j
        · rfl
        · exact absurd ⟨j, hj, e⟩ hf)] at hpar
      cases hpar
  obtain ⟨⟨u, v⟩, hw, hit0, hfirst⟩ := first_hit a _ hex
  obtain ⟨hu, hv, hP⟩ := hit0
  dsimp only at hu hv hP
  obtain ⟨pu, pv, _, ⟨iv, hiv, ev⟩⟩ := sides_pok hr hw
  dsimp only at pu pv ev
  -- the first corner before it
  obtain ⟨c, hc, okc, hmin⟩ := first_corner a u v ((List.range L.length).map (at2 L)) ⟨v, List.mem_map.2 ⟨iv, by simpa using hiv, ev.symm⟩, hv, by rw [turnZ_b]; omega⟩
  have hv' : leC a c v := hmin v (List.mem_map.2 ⟨iv, by simpa using hiv, ev.symm⟩) ⟨hv, by rw [turnZ_b]; omega⟩
  obtain ⟨k, hk, rfl⟩ := List.mem_map.1 hc
  replace hk : k < L.length := by simpa using hk
  refine ⟨k, hk, ?_⟩
  replace hmin : ∀ i, i < L.length → okC a u v (at2 L i) → leC a (at2 L k) (at2 L i) := fun i hi hok => hmin _ (List.mem_map.2 ⟨i, by simpa using hi, rfl⟩) hok
  have hac : a ≠ at2 L k := fun e => hne k hk e.symm
  have pc := hr.pok k hk
  have sc := hr.small k hk
  have hcv : 0 ≤ turnZ a (at2 L k) v := by unfold leC at hv'; omega
  obtain ⟨hcl, hTc⟩ := okc
  have hT0 : 0 < turnZ u v a := by rw [← turn_cyc]; exact hP
  -- no corner on the way
  have hcut : ∀ i, i < L.length → cutF L a (at2 L k) i = false := fun i hi => by
    cases hcf : cutF L a (at2 L k) i
    · rfl
    exfalso
    obtain ⟨g1, g2, g3⟩ := cutF_spec hcf
    obtain ⟨g4, g5⟩ := (onP_small (hr.small i hi) sa sc).1 g3
    obtain ⟨d0, d1, d2⟩ := on_way hac g4 g5 g1 g2
    have l1 := lin_at g4 a (eye a)
    rw [turnZ_a, Int.mul_zero, Int.zero_add] at l1
    have l2 := lin_at g4 u v
    have o1 : 0 < turnZ a (eye a) (at2 L i) := of_pp d0 (by rw [l1]; exact pp d1 hcl)
    have o2 : turnZ a (eye a) (at2 L i) < turnZ a (eye a) (at2 L k) := by
      have q := pp (x := dd2 a (at2 L k) - tt a (at2 L k) (at2 L i)) (y := turnZ a (eye a) (at2 L k)) (by omega) hcl
      rw [Int.sub_mul, ← l1, ← Int.mul_sub] at q
      have := of_pp d0 q
      omega
    have o3 : 0 ≤ turnZ u v (at2 L i) := by
      refine nn_of d0 ?_
      rw [l2]
      have q1 := pp (x := dd2 a (at2 L k) - tt a (at2 L k) (at2 L i)) (y := turnZ u v a) (by omega) hT0
      have q2 := pn d1 hTc
      omega
    have := hmin i hi ⟨o1, o3⟩
    unfold leC at this
    omega
  -- no wall across the way
  have hshut : ∀ s t, (s, t) ∈ sidesL L → turnZ a (at2 L k) s < 0 → 0 < turnZ a (at2 L k) t → (turnZ s t a < 0 ∧ 0 < turnZ s t (at2 L k) ∨ 0 < turnZ s t a ∧ turnZ s t (at2 L k) < 0) → False := fun s t hst q1 q2 q3 => by
    obtain ⟨ps, pt, ⟨is, his, es⟩, _⟩ := sides_pok hr hst
    dsimp only at ps pt es
    have e1 := tri_sum a s t (at2 L k)
    have e2 := turn_rev a (at2 L k) t
    have e3 := turn_cyc a s t
    have hN : 0 < turnZ a s t := by omega
    have r := shut hu hv hP hcl hTc hcv q1 q2 hN (by omega) (by rw [es]; exact hgen is his)
      (fun g => by
        rcases Int.lt_or_le (turnZ u v s) 0 with g1 | g1
        · exact g1
        · have := hmin is his ⟨by rw [← es]; exact g, by rw [← es]; exact g1⟩
          rw [← es] at this
          unfold leC at this
          omega)
      (fun g1 g2 => hfirst (s, t) hst ⟨g1, g2, hN⟩)
    have := sides_cross h hw hst
    dsimp only at this
    have : crossP u v s t = true := by
      unfold crossP
      rw [turn_small (small_pok pu) (small_pok pv) (small_pok ps), turn_small (small_pok pu) (small_pok pv) (small_pok pt), turn_small (small_pok ps) (small_pok pt) (small_pok pu), turn_small (small_pok ps) (small_pok pt) (small_pok pv), Bool.and_eq_true, oppo_iff, oppo_iff]
      omega
    simp_all
  have hcross : ∀ j, j < L.length → crossP a (at2 L k) (at2 L j) (nxt L j) = false := fun j hj => by
    cases hx : crossP a (at2 L k) (at2 L j) (nxt L j)
    · rfl
    exfalso
    have s1 := hr.small j hj
    have s2 : small (nxt L j) := hr.small _ (nx_lt hj)
    unfold crossP at hx
    rw [turn_small sa sc s1, turn_small sa sc s2, turn_small s1 s2 sa, turn_small s1 s2 sc, Bool.and_eq_true, oppo_iff, oppo_iff] at hx
    obtain ⟨x1, x2⟩ := hx
    rcases x1 with x1 | x1
    · exact hshut _ _ (sides_iff.2 ⟨j, hj, .inl rfl⟩) x1.1 x1.2 x2
    · refine hshut _ _ (sides_iff.2 ⟨j, hj, .inr rfl⟩) x1.2 x1.1 ?_
      rw [turnZ_swap (at2 L j), turnZ_swap (at2 L j)]
      omega
  refine sees_of hr hac sa sc hcross hcut ?_
  -- the middle
  have hm := mid_val ha pc
  have sm := mid_small ha pc
  have bc := pok_bd pc
  intro hneg
  have hdoff : offW (dblL L) (midP a (at2 L k)) = true := by
    cases ho : offW (dblL L) (midP a (at2 L k))
    · unfold holdsS at hneg; rw [ho] at hneg; simp at hneg
    · rfl
  have hon : ∀ i, i < L.length → onP (dbl (at2 L i)) (dbl a) (midP a (at2 L k)) = false := fun i hi => by
    cases ho : onP (dbl (at2 L i)) (dbl a) (midP a (at2 L k))
    · rfl
    exfalso
    obtain ⟨g4, g5⟩ := (onP_small (dbl_small (hr.pok i hi)) (dbl_small ha) sm).1 ho
    have bi := pok_bd (hr.pok i hi)
    rw [dbl_val (hr.small i hi), dbl_val sa, hm] at g4 g5
    have g6 : turnZ a (at2 L k) (at2 L i) = 0 := by
      have : 2 * turnZ a (at2 L k) (at2 L i) = 0 := by rw [← g4]; unfold turnZ; dsimp only; grind
      omega
    unfold inBox at g5
    dsimp only at g5
    have g7 : onP (at2 L i) a (at2 L k) = true := (onP_small (hr.small i hi) sa sc).2 ⟨g6, by unfold inBox; omega⟩
    have g8 : at2 L i ≠ at2 L k := fun e => by
      rw [e] at g5
      refine hac ?_
      have e1 : a.a = (at2 L k).a := by omega
      have e2 : a.b = (at2 L k).b := by omega
      cases hx : at2 L k; cases a
      rw [hx] at e1 e2
      dsimp only at e1 e2
      rw [e1, e2]
    have : cutF L a (at2 L k) i = true := by
      unfold cutF
      rw [g7]
      have n1 : eqP (at2 L i) a = false := by
        cases e : eqP (at2 L i) a
        · rfl
        · exact absurd (eqP_iff.1 e) (hne i hi)
      have n2 : eqP (at2 L i) (at2 L k) = false := by
        cases e : eqP (at2 L i) (at2 L k)
        · rfl
        · exact absurd (eqP_iff.1 e) g8
      rw [n1, n2]; rfl
    rw [hcut i hi] at this; cases this
  have hap : ∀ j, j < (dblL L).length → Apart4 (at2 (dblL L) j) (nxt (dblL L) j) (dbl a) (midP a (at2 L k)) := fun j hj => by
    rw [dblL_len] at hj
    have s1 := hr.small j hj
    have s2 : small (nxt L j) := hr.small _ (nx_lt hj)
    have p1 := hr.pok j hj
    have p2 := pok_nxt hr hj
    have f1 : onAt (dblL L) (midP a (at2 L k)) j = false := by
      unfold offW at hdoff
      rw [allN_iff] at hdoff
      have := hdoff j (by rw [dblL_len]; exact hj)
      simpa using this
    have f2 : onAt L a j = false := by
      unfold offW at hoff
      rw [allN_iff] at hoff
      have := hoff j hj
      simpa using this
    unfold onAt at f1 f2
    rw [dbl_at2 hj, dbl_nxt hj] at *
    refine ⟨dbl_small p1, dbl_small p2, dbl_small ha, sm, ?_, hon j hj, hon _ (nx_lt hj), ?_, f1⟩
    · cases hx : crossP (dbl a) (midP a (at2 L k)) (dbl (at2 L j)) (dbl (nxt L j))
      · rfl
      exfalso
      have h1 := hcross j hj
      have : crossP a (at2 L k) (at2 L j) (nxt L j) = true := by
        unfold crossP at hx ⊢
        rw [turn_small (dbl_small ha) sm (dbl_small p1), turn_small (dbl_small ha) sm (dbl_small p2), turn_small (dbl_small p1) (dbl_small p2) (dbl_small ha), turn_small (dbl_small p1) (dbl_small p2) sm, Bool.and_eq_true, oppo_iff, oppo_iff, dbl_val s1, dbl_val s2, dbl_val sa, hm] at hx
        rw [turn_small sa sc s1, turn_small sa sc s2, turn_small s1 s2 sa, turn_small s1 s2 sc, Bool.and_eq_true, oppo_iff, oppo_iff]
        have w1 : turnZ ⟨2 * a.a, 2 * a.b⟩ ⟨a.a + (at2 L k).a, a.b + (at2 L k).b⟩ ⟨2 * (at2 L j).a, 2 * (at2 L j).b⟩ = 2 * turnZ a (at2 L k) (at2 L j) := by unfold turnZ; dsimp only; grind
        have w2 : turnZ ⟨2 * a.a, 2 * a.b⟩ ⟨a.a + (at2 L k).a, a.b + (at2 L k).b⟩ ⟨2 * (nxt L j).a, 2 * (nxt L j).b⟩ = 2 * turnZ a (at2 L k) (nxt L j) := by unfold turnZ; dsimp only; grind
        have w3 : turnZ ⟨2 * (at2 L j).a, 2 * (at2 L j).b⟩ ⟨2 * (nxt L j).a, 2 * (nxt L j).b⟩ ⟨2 * a.a, 2 * a.b⟩ = 4 * turnZ (at2 L j) (nxt L j) a := by unfold turnZ; dsimp only; grind
        have w4 : turnZ ⟨2 * (at2 L j).a, 2 * (at2 L j).b⟩ ⟨2 * (nxt L j).a, 2 * (nxt L j).b⟩ ⟨a.a + (at2 L k).a, a.b + (at2 L k).b⟩ = 2 * (turnZ (at2 L j) (nxt L j) a + turnZ (at2 L j) (nxt L j) (at2 L k)) := by unfold turnZ; dsimp only; grind
        rw [w1, w2, w3, w4] at hx
        omega
      rw [h1] at this; cases this
    · rw [on_dbl ha p1 p2]; exact f2
  have hpe := par_same (by rw [dblL_len]; omega) hap
  have hd := holds_dbl hr ha
  rw [hh] at hd
  unfold holdsS at hd hneg
  rw [hdoff, ← hpe] at hneg
  cases q : parN (flipS (dblL L) (dbl a)) (dblL L).length
  · rw [q] at hd
    revert hd
    split <;> simp
  · rw [q] at hneg; simp at hneg
/-- From a point on a wall. -/
theorem edge_sees (h : roomS L = true) {a : T2} (ha : pokT a = true) {j : Nat} (hj : j < L.length) (hon : onAt L a j = true) : seesS L a (at2 L j) = true := by
  have hr := roomP_of h
  have sa := small_pok ha
  have s1 := hr.small j hj
  have s2 : small (nxt L j) := hr.small _ (nx_lt hj)
  have p1 := hr.pok j hj
  have p2 := pok_nxt hr hj
  by_cases e : a = at2 L j
  · rw [e]; exact sees_self hr p1 (by rw [place_corner hr hj]; omega)
  unfold onAt at hon
  obtain ⟨g4, g5⟩ := (onP_small sa s1 s2).1 hon
  have hst : at2 L j ≠ nxt L j := fun e1 => by
    rw [← e1] at g5
    refine e ?_
    unfold inBox at g5
    have e1 : a.a = (at2 L j).a := by omega
    have e2 : a.b = (at2 L j).b := by omega
    cases hx : at2 L j; cases a
    rw [hx] at e1 e2
    dsimp only at e1 e2
    rw [e1, e2]
  have hd := dd2_pos hst
  have t0 := tt_pos g5
  have t1 : tt (at2 L j) (nxt L j) a ≠ 0 := fun e1 => e (tt_inj hst g4 (turnZ_a _ _) (by rw [e1]; unfold tt; grind))
  have t2 : tt (at2 L j) (nxt L j) a ≤ dd2 (at2 L j) (nxt L j) := by
    have := tt_pos (a := nxt L j) (b := at2 L j) (c := a) (by unfold inBox at *; omega)
    have e2 : tt (nxt L j) (at2 L j) a = dd2 (at2 L j) (nxt L j) - tt (at2 L j) (nxt L j) a := by unfold tt dd2; grind
    omega
  have hl := fun u v => lin_at g4 u v
  have hs : ∀ p, dd2 (at2 L j) (nxt L j) * turnZ a (at2 L j) p = -(tt (at2 L j) (nxt L j) a * turnZ (at2 L j) (nxt L j) p) := fun p => by
    have q := hl (at2 L j) p
    rw [turnZ_a] at q
    have e1 : turnZ a (at2 L j) p = turnZ (at2 L j) p a := turn_cyc _ _ _
    have e2 : turnZ (at2 L j) (nxt L j) p = -turnZ (at2 L j) p (nxt L j) := turn_rev _ _ _
    rw [e1, e2, q, Int.mul_zero, Int.zero_add, Int.mul_neg, Int.neg_neg]
  have hneg : ∀ p, (turnZ a (at2 L j) p < 0 ↔ 0 < turnZ (at2 L j) (nxt L j) p) ∧ (0 < turnZ a (at2 L j) p ↔ turnZ (at2 L j) (nxt L j) p < 0) ∧ (turnZ a (at2 L j) p = 0 ↔ turnZ (at2 L j) (nxt L j) p = 0) := fun p => by
    have q := hs p
    have d0 : 0 < tt (at2 L j) (nxt L j) a := by omega
    generalize turnZ a (at2 L j) p = x at *
    generalize turnZ (at2 L j) (nxt L j) p = y at *
    generalize dd2 (at2 L j) (nxt L j) = D at *
    generalize tt (at2 L j) (nxt L j) a = m at *
    rcases Int.lt_trichotomy y 0 with hy | hy | hy
    · have := mneg d0 hy
      have := of_pp hd (y := x) (by omega)
      omega
    · rw [hy, Int.mul_zero] at q
      rcases Int.mul_eq_zero.1 (show D * x = 0 by omega) with g | g <;> omega
    · have := pp d0 hy
      have := of_pn hd (y := x) (by omega)
      omega
  refine sees_of hr e sa s1 (fun i hi => ?_) (fun i hi => ?_) ?_
  · cases hx : crossP a (at2 L j) (at2 L i) (nxt L i)
    · rfl
    exfalso
    have w1 := hr.small i hi
    have w2 : small (nxt L i) := hr.small _ (nx_lt hi)
    have h1 := wall_cross h hj hi
    have : crossP (at2 L j) (nxt L j) (at2 L i) (nxt L i) = true := by
      unfold crossP at hx ⊢
      rw [turn_small sa s1 w1, turn_small sa s1 w2, turn_small w1 w2 sa, turn_small w1 w2 s1, Bool.and_eq_true, oppo_iff, oppo_iff] at hx
      rw [turn_small s1 s2 w1, turn_small s1 s2 w2, turn_small w1 w2 s1, turn_small w1 w2 s2, Bool.and_eq_true, oppo_iff, oppo_iff]
      obtain ⟨x1, x2⟩ := hx
      have q1 := hneg (at2 L i)
      have q2 := hneg (nxt L i)
      refine ⟨by omega, ?_⟩
      have q3 := hl (at2 L i) (nxt L i)
      have d0 : 0 < tt (at2 L j) (nxt L j) a := by omega
      generalize turnZ (at2 L i) (nxt L i) a = x at *
      generalize turnZ (at2 L i) (nxt L i) (at2 L j) = y at *
      generalize turnZ (at2 L i) (nxt L i) (nxt L j) = z at *
      generalize dd2 (at2 L j) (nxt L j) = D at *
      generalize tt (at2 L j) (nxt L j) a = m at *
      rcases x2 with ⟨g1, g2⟩ | ⟨g1, g2⟩
      · have r1 := mneg hd g1
        have r2 := Int.mul_nonneg (a := D - m) (b := y) (by omega) (by omega)
        have := of_pn d0 (y := z) (by omega)
        omega
      · have r1 := pp hd g1
        have r2 := Int.mul_nonneg (a := D - m) (b := -y) (by omega) (by omega)
        rw [Int.mul_neg] at r2
        have := of_pp d0 (y := z) (by omega)
        omega
    rw [h1] at this; cases this
  · cases hx : cutF L a (at2 L j) i
    · rfl
    exfalso
    obtain ⟨f1, f2, f3⟩ := cutF_spec hx
    have w1 := hr.small i hi
    obtain ⟨f4, f5⟩ := (onP_small w1 sa s1).1 f3
    have f6 := (hneg (at2 L i)).2.2.1 f4
    unfold inBox at f5 g5
    have f7 : onP (at2 L i) (at2 L j) (nxt L j) = true := (onP_small w1 s1 s2).2 ⟨f6, by unfold inBox; omega⟩
    have f8 : at2 L i ≠ nxt L j := fun e1 => by
      rw [e1] at f5
      refine f1 ?_
      rw [e1]
      have e1 : (nxt L j).a = a.a := by omega
      have e2 : (nxt L j).b = a.b := by omega
      exact t2_ext e1 e2
    have : cutF L (at2 L j) (nxt L j) i = true := by
      unfold cutF
      rw [f7]
      have n1 : eqP (at2 L i) (at2 L j) = false := by
        cases e : eqP (at2 L i) (at2 L j)
        · rfl
        · exact absurd (eqP_iff.1 e) f2
      have n2 : eqP (at2 L i) (nxt L j) = false := by
        cases e : eqP (at2 L i) (nxt L j)
        · rfl
        · exact absurd (eqP_iff.1 e) f8
      rw [n1, n2]; rfl
    rw [wall_cut h hj hi] at this; cases this
  · have hm := mid_val ha p1
    have hoff : offW (dblL L) (midP a (at2 L j)) = false := by
      unfold offW
      refine allN_false (k := j) (by rw [dblL_len]; exact hj) ?_
      unfold onAt
      rw [dbl_at2 hj, dbl_nxt hj]
      have := (onP_small (p := midP a (at2 L j)) (a := dbl (at2 L j)) (b := dbl (nxt L j)) (mid_small ha p1) (dbl_small p1) (dbl_small p2)).2 (by
        rw [dbl_val s1, dbl_val s2, hm]
        refine ⟨?_, ?_⟩
        · have w : turnZ ⟨2 * (at2 L j).a, 2 * (at2 L j).b⟩ ⟨2 * (nxt L j).a, 2 * (nxt L j).b⟩ ⟨a.a + (at2 L j).a, a.b + (at2 L j).b⟩ = 2 * turnZ (at2 L j) (nxt L j) a := by unfold turnZ; dsimp only; grind
          rw [w, g4]; rfl
        · unfold inBox at *; dsimp only; omega)
      rw [this]; rfl
    unfold holdsS
    rw [hoff]
    simp
/-- Every point of the floor sees a corner. -/
theorem floor_sees (h : roomS L = true) {a : T2} (ha : onFloor L a) : ∃ k, k < L.length ∧ seesS L a (at2 L k) = true := by
  obtain ⟨h1, h2⟩ := ha
  rcases place_range L a with h3 | h3 | h3
  · exact absurd h3 h2
  · by_cases ho : ∃ j, j < L.length ∧ onAt L a j = true
    · obtain ⟨j, hj, ho⟩ := ho
      exact ⟨j, hj, edge_sees h h1 hj ho⟩
    · exfalso
      have : offW L a = true := by
        unfold offW
        rw [allN_iff]
        intro j hj
        cases e : onAt L a j
        · rfl
        · exact absurd ⟨j, hj, e⟩ ho
      unfold placeI at h3
      rw [this] at h3
      revert h3
      cases parN (flipI L a) L.length <;> simp
  · exact inner_sees h h1 h3
end
end Go.Proofs.Ytkifapcegiajiaa
/- Walks: WalkOk, PatrolOk, l13In. Conditions: at most 1048577 corners and points. -/
namespace Go.Proofs.Ytkifapcegiajiaa
open Go.RowKit
set_option linter.unusedVariables false

def walkStep (L P : List T2) (k : Nat) : Bool := seesS L (at2 P k) (at2 P (k + 1))
def walkR (L P : List T2) : Bool := decide (P.length ≤ 40) && (allIn L P && allN (P.length - 1) (walkStep L P))
def patrolR (L P : List T2) : Bool := btw P.length 1 40 && (walkR L P && seesS L (at2 P 0) (at2 P (P.length - 1)))
theorem allIn_room {L P : List T2} (h : allIn L P = true) : roomS L = true := by unfold allIn at h; simp only [Bool.and_eq_true] at h; exact h.2
theorem allIn_at {L P : List T2} (h : allIn L P = true) {k : Nat} (hk : k < P.length) : pokT (at2 P k) = true ∧ ¬ placeI L (at2 P k) = 0 := by
  unfold allIn insI at h
  simp only [Bool.and_eq_true] at h
  have := allN_iff.1 h.1 k hk
  simp only [Bool.and_eq_true, Bool.not_eq_true', beq_eq_false_iff_ne] at this
  exact this
theorem iSee_at (A : Option Addr) (n c : Nat) (L : List T2) (p q : T2) (w : World) (hl : Row w A (L.flatMap T2.v)) (hn : L.length = n) (hr : roomS L = true) (ha : pokT p = true) (hb : pokT q = true) : Gives Try.prog 39 #[.agg #[.slice A n c], .agg #[.int .i64 p.a, .int .i64 p.b], .agg #[.int .i64 q.a, .int .i64 q.b]] w (.bool (seesS L p q)) :=
  sees_any A n c L p q w hl hn hr ha hb
theorem sSee_at (A : Option Addr) (n c : Nat) (L : List T2) (p q : T2) (w : World) (hl : Row w A (L.flatMap T2.v)) (hn : L.length = n) (hr : roomS L = true) (ha : pokT p = true) (hb : pokT q = true) : Gives Try.prog 35 #[.slice A n c, .agg #[.int .i64 p.a, .int .i64 p.b], .agg #[.int .i64 q.a, .int .i64 q.b]] w (.bool (seesS L p q)) :=
  l08Sees_any A n c L p q w hl hn hr
set_option maxRecDepth 100000 in
set_option maxHeartbeats 1600000 in
theorem iWalk_any (A : Option Addr) (n c : Nat) (L : List T2) (B : Option Addr) (m d : Nat) (P : List T2) (w : World) (hl : Row w A (L.flatMap T2.v)) (hn : L.length = n) (hx : n ≤ 1048577) (hr : Row w B (P.flatMap T2.v)) (hm : P.length = m) (hy : m ≤ 1048577) : Gives Try.prog 30 #[.agg #[.slice A n c], .slice B m d] w (.bool (walkR L P)) := by
  subst hm
  have HL := hid hl
  have HR := hid hr
  clear hl hr
  by_cases h40 : P.length ≤ 40
  rotate_left
  · have HV := hid (show walkR L P = false by unfold walkR; rw [decide_eq_false h40]; rfl)
    have h40' : (40 : Int) < P.length := by omega
    cases hal : allIn L P
    all_goals
      (unfold Gives; go_enter Try.func30, Try.ntmps30)
      go_wp2_with (go_at_call 37; refine (gives_b hal (allIn_any A n c L B P.length d P _ (HL.out.ext (by repeat (first | exact Ext.refl _ | refine Ext.alloc ?_ _ | assumption | refine Ext.over ?_ _ | refine Ext.drew ?_ | refine Ext.drewN ?_ _))) hn hx (HR.out.ext (by repeat (first | exact Ext.refl _ | refine Ext.alloc ?_ _ | assumption | refine Ext.over ?_ _ | refine Ext.drew ?_ | refine Ext.drewN ?_ _))) rfl hy)).over.mono ?_; rintro e w' ⟨rfl, xw, rfl⟩)
      go_ret
      exact ⟨by rw [HV.out]; rfl, by repeat (first | exact Ext.refl _ | refine Ext.alloc ?_ _ | assumption | refine Ext.over ?_ _ | refine Ext.drew ?_ | refine Ext.drewN ?_ _)⟩
  have h40' : (P.length : Int) ≤ 40 := by omega
  cases hal : allIn L P
  · have HV := hid (show walkR L P = false by unfold walkR; rw [hal]; simp)
    (unfold Gives; go_enter Try.func30, Try.ntmps30)
    go_wp2_with (go_at_call 37; refine (gives_b hal (allIn_any A n c L B P.length d P _ (HL.out.ext (by repeat (first | exact Ext.refl _ | refine Ext.alloc ?_ _ | assumption | refine Ext.over ?_ _ | refine Ext.drew ?_ | refine Ext.drewN ?_ _))) hn hx (HR.out.ext (by repeat (first | exact Ext.refl _ | refine Ext.alloc ?_ _ | assumption | refine Ext.over ?_ _ | refine Ext.drew ?_ | refine Ext.drewN ?_ _))) rfl hy)).over.mono ?_; rintro e w' ⟨rfl, xw, rfl⟩)
    go_ret
    exact ⟨by rw [HV.out]; rfl, by repeat (first | exact Ext.refl _ | refine Ext.alloc ?_ _ | assumption | refine Ext.over ?_ _ | refine Ext.drew ?_ | refine Ext.drewN ?_ _)⟩
  have HV := hid (show walkR L P = allN (P.length - 1) (walkStep L P) by unfold walkR; rw [decide_eq_true h40, hal]; rfl)
  have hro := allIn_room hal
  have HAT := hid (fun k hk => (allIn_at hal (k := k) hk).1)
  have HS := hid (fun p q w' (h : Row w' A (L.flatMap T2.v)) (hp : pokT p = true) (hq : pokT q = true) => iSee_at A n c L p q w' h hn hro hp hq)
  (unfold Gives; go_enter Try.func30, Try.ntmps30)
  go_wp2_with fail
  refine (gives_b hal (allIn_any A n c L B P.length d P _ (HL.out.ext (by repeat (first | exact Ext.refl _ | refine Ext.alloc ?_ _ | assumption | refine Ext.over ?_ _ | refine Ext.drew ?_ | refine Ext.drewN ?_ _))) hn hx (HR.out.ext (by repeat (first | exact Ext.refl _ | refine Ext.alloc ?_ _ | assumption | refine Ext.over ?_ _ | refine Ext.drew ?_ | refine Ext.drewN ?_ _))) rfl hy)).mono ?_
  rintro _ w1 ⟨rfl, e1⟩
  have b0 : w1.cell? ⟨w.heap.size, 0, none⟩ = some (.slice A n c) := old_cell e1 (by go_simp)
  have E1 := hid (Ext.trans (show Ext w _ by repeat (first | exact Ext.refl _ | refine Ext.alloc ?_ _ | assumption | refine Ext.over ?_ _ | refine Ext.drew ?_ | refine Ext.drewN ?_ _)) e1)
  generalize w.heap.size = gr at b0 ⊢
  clear e1 hal hro
  go_wp2_with fail
  go_loopw [5] (fun iv wr => ∃ (i : Nat), 1 ≤ i ∧ (i ≤ P.length ∨ i = 1) ∧ iv = .int .i64 ↑i ∧ (∀ j, j + 1 < i → walkStep L P j = true) ∧ Ext w1 wr) (fun iv _ => P.length + 1 - (intOf iv).toNat)
  case atStart => exact ⟨1, by omega, by omega, by go_num, (fun j hj => by omega), Ext.refl _⟩
  case round =>
    obtain ⟨i, hi, hil, rfl, hok, he⟩ := hrel
    have HK := hid hok
    have HE := hid he
    have HX := hid (E1.out.trans he)
    have r0 := old_cell he b0
    clear hok he
    by_cases hlt : i < P.length
    · obtain ⟨im, him⟩ : ∃ im, im = i - 1 := ⟨_, rfl⟩
      have hwj : IntKind.i64.wrap ((i : Int) - 1) = (im : Int) := by rw [IntWalk.i64_in _ (by omega)]; omega
      have hi' : (i : Int) < P.length := by omega
      have him' : (im : Int) < P.length := by omega
      obtain ⟨bk, off, hB, hcb⟩ := (HR.out.ext HX.out).t2 hlt
      obtain ⟨c1, c2⟩ := hcb i hlt
      obtain ⟨e1, e2⟩ := hcb im (by omega)
      have HNO := hid (fun (h : seesS L (at2 P im) (at2 P i) = false) => (show allN (P.length - 1) (walkStep L P) = false from allN_false (k := im) (by omega) (by unfold walkStep; rw [show im + 1 = i by omega]; exact h)))
      have HYES := hid (fun (h : seesS L (at2 P im) (at2 P i) = true) j (hj : j + 1 < i + 1) => (show walkStep L P j = true by
        rcases Nat.lt_or_ge (j + 1) i with h5 | h5
        · exact HK.out j h5
        · unfold walkStep; rw [show j = im by omega, show im + 1 = i by omega]; exact h))
      have HSS := hid (fun w' (h : Row w' A (L.flatMap T2.v)) => HS.out (at2 P im) (at2 P i) w' h (HAT.out im (by omega)) (HAT.out i hlt))
      subst hB
      clear hcb him
      generalize at2 P i = p at c1 c2 HNO HYES HSS
      generalize at2 P im = q at e1 e2 HNO HYES HSS
      cases h7 : seesS L q p
      · have HV2 := hid (HV.out.trans (HNO.out h7))
        go_wp2_with fail
        (refine wp_region_calm (by kernel_rfl) (by kernel_rfl) ?_; (repeat (go_big_quiet_step ((go_at_call 39; exact (gives_b h7 (HSS.out _ (HL.out.ext (HX.out.trans (by repeat (first | exact Ext.refl _ | refine Ext.alloc ?_ _ | assumption | refine Ext.over ?_ _ | refine Ext.drew ?_ | refine Ext.drewN ?_ _)))))).calm)))); refine wpQuiet_nil ?_; rintro w1 ⟨x1, rfl⟩)
        go_wp2_with fail
        go_ret
        exact ⟨by rw [HV2.out]; rfl, HX.out.trans (by repeat (first | exact Ext.refl _ | refine Ext.alloc ?_ _ | assumption | refine Ext.over ?_ _ | refine Ext.drew ?_ | refine Ext.drewN ?_ _))⟩
      · have HN := hid (HYES.out h7)
        go_wp2_with fail
        (refine wp_region_calm (by kernel_rfl) (by kernel_rfl) ?_; (repeat (go_big_quiet_step ((go_at_call 39; exact (gives_b h7 (HSS.out _ (HL.out.ext (HX.out.trans (by repeat (first | exact Ext.refl _ | refine Ext.alloc ?_ _ | assumption | refine Ext.over ?_ _ | refine Ext.drew ?_ | refine Ext.drewN ?_ _)))))).calm)))); refine wpQuiet_nil ?_; rintro w1 ⟨x1, rfl⟩)
        go_wp2_with fail
        go_roundw
        case rel => exact ⟨i + 1, by omega, by omega, by go_num, HN.out, HE.out.trans (by repeat (first | exact Ext.refl _ | refine Ext.alloc ?_ _ | assumption | refine Ext.over ?_ _ | refine Ext.drew ?_ | refine Ext.drewN ?_ _))⟩
        case measure => simp [intOf]; omega
    · have HV2 := hid (show walkR L P = true by rw [HV.out]; exact allN_true fun j hj => HK.out j (by omega))
      have hi' : ¬ (i : Int) < P.length := by omega
      go_wp2_with fail
      go_ret
      exact ⟨by rw [HV2.out]; rfl, HX.out⟩
set_option maxRecDepth 100000 in
set_option maxHeartbeats 1600000 in
theorem iPatrol_any (A : Option Addr) (n c : Nat) (L : List T2) (B : Option Addr) (m d : Nat) (P : List T2) (w : World) (hl : Row w A (L.flatMap T2.v)) (hn : L.length = n) (hx : n ≤ 1048577) (hr : Row w B (P.flatMap T2.v)) (hm : P.length = m) (hy : m ≤ 1048577) : Gives Try.prog 22 #[.agg #[.slice A n c], .slice B m d] w (.bool (patrolR L P)) := by
  subst hm
  have HL := hid hl
  have HR := hid hr
  clear hl hr
  cases hb : btw P.length 1 40
  · have HV := hid (show patrolR L P = false by unfold patrolR; rw [hb]; rfl)
    (unfold Gives; go_enter Try.func22, Try.ntmps22)
    go_wp2_with fail
    (refine wp_region_calm (by kernel_rfl) (by kernel_rfl) ?_; (repeat (go_big_quiet_step ((go_at_call 50; exact (gives_b hb (between_any _ _ _ _)).calm)))); refine wpQuiet_nil ?_; rintro w1 ⟨x1, rfl⟩)
    go_wp2_with fail
    go_ret
    exact ⟨by rw [HV.out]; rfl, by repeat (first | exact Ext.refl _ | refine Ext.alloc ?_ _ | assumption | refine Ext.over ?_ _ | refine Ext.drew ?_ | refine Ext.drewN ?_ _)⟩
  have hbb := btw_iff.1 hb
  cases hw : walkR L P
  · have HV := hid (show patrolR L P = false by unfold patrolR; rw [hw]; simp)
    (unfold Gives; go_enter Try.func22, Try.ntmps22)
    go_wp2_with fail
    (refine wp_region_calm (by kernel_rfl) (by kernel_rfl) ?_; (repeat (go_big_quiet_step (first | (go_at_call 50; exact (gives_b hb (between_any _ _ _ _)).calm) | (go_at_call 30; exact (gives_b hw (iWalk_any A n c L B P.length d P _ (HL.out.ext (by repeat (first | exact Ext.refl _ | refine Ext.alloc ?_ _ | assumption | refine Ext.over ?_ _ | refine Ext.drew ?_ | refine Ext.drewN ?_ _))) hn hx (HR.out.ext (by repeat (first | exact Ext.refl _ | refine Ext.alloc ?_ _ | assumption | refine Ext.over ?_ _ | refine Ext.drew ?_ | refine Ext.drewN ?_ _))) rfl hy)).calm)))); refine wpQuiet_nil ?_; rintro w1 ⟨x1, rfl⟩)
    go_wp2_with fail
    go_ret
    exact ⟨by rw [HV.out]; rfl, by repeat (first | exact Ext.refl _ | refine Ext.alloc ?_ _ | assumption | refine Ext.over ?_ _ | refine Ext.drew ?_ | refine Ext.drewN ?_ _)⟩
  have hal : allIn L P = true := by unfold walkR at hw; simp only [Bool.and_eq_true] at hw; exact hw.2.1
  have hro := allIn_room hal
  obtain ⟨im, him⟩ : ∃ im, im = P.length - 1 := ⟨_, rfl⟩
  have hwj : IntKind.i64.wrap ((P.length : Int) - 1) = (im : Int) := by rw [IntWalk.i64_in _ (by omega)]; omega
  have h0' : (0 : Int) < P.length := by omega
  have him' : (im : Int) < P.length := by omega
  have HV := hid (show patrolR L P = seesS L (at2 P im) (at2 P 0) by
    unfold patrolR
    rw [hb, hw, ← him]
    first
    | rfl
    | (rw [seesS_symm (roomP_of hro) (small_pok (allIn_at hal (by omega)).1) (small_pok (allIn_at hal (by omega)).1)]; rfl))
  have HSS := hid (fun w' (h : Row w' A (L.flatMap T2.v)) => iSee_at A n c L (at2 P im) (at2 P 0) w' h hn hro (allIn_at hal (by omega)).1 (allIn_at hal (by omega)).1)
  have HR0 := hid (HR.out.ext (w' := w.alloc (.cells #[.slice A n c] 33)) (by repeat (first | exact Ext.refl _ | refine Ext.alloc ?_ _ | assumption | refine Ext.over ?_ _ | refine Ext.drew ?_ | refine Ext.drewN ?_ _)))
  obtain ⟨bk, off, hB, hcb⟩ := HR0.out.t2 (i := 0) (by omega)
  obtain ⟨c1, c2⟩ := hcb 0 (by omega)
  obtain ⟨e1, e2⟩ := hcb im (by omega)
  have e00 : off + 0 * 2 = off := by omega
  rw [e00] at c1 c2
  have HW2 := hid (fun w' (h : Row w' A (L.flatMap T2.v)) (h' : Row w' B (P.flatMap T2.v)) => gives_b hw (iWalk_any A n c L B P.length d P w' h hn hx h' rfl hy))
  subst hB
  clear hcb him hal hro hw hbb e00
  generalize at2 P im = q at e1 e2 HV HSS
  generalize at2 P 0 = p at c1 c2 HV HSS
  (unfold Gives; go_enter Try.func22, Try.ntmps22)
  go_wp2_with fail
  (refine wp_region_calm (by kernel_rfl) (by kernel_rfl) ?_; (repeat (go_big_quiet_step (first | (go_at_call 50; exact (gives_b hb (between_any _ _ _ _)).calm) | (go_at_call 30; exact (HW2.out _ (HL.out.ext (by repeat (first | exact Ext.refl _ | refine Ext.alloc ?_ _ | assumption | refine Ext.over ?_ _ | refine Ext.drew ?_ | refine Ext.drewN ?_ _))) (HR.out.ext (by repeat (first | exact Ext.refl _ | refine Ext.alloc ?_ _ | assumption | refine Ext.over ?_ _ | refine Ext.drew ?_ | refine Ext.drewN ?_ _)))).calm) | (go_at_call 39; exact (HSS.out _ (HL.out.ext (by repeat (first | exact Ext.refl _ | refine Ext.alloc ?_ _ | assumption | refine Ext.over ?_ _ | refine Ext.drew ?_ | refine Ext.drewN ?_ _)))).calm)))); refine wpQuiet_nil ?_; rintro w1 ⟨x1, rfl⟩)
  go_wp2_with fail
  go_ret
  exact ⟨by rw [HV.out]; rfl, by repeat (first | exact Ext.refl _ | refine Ext.alloc ?_ _ | assumption | refine Ext.over ?_ _ | refine Ext.drew ?_ | refine Ext.drewN ?_ _)⟩
end Go.Proofs.Ytkifapcegiajiaa
/- Walks: seenOn, l22Seen, SeenOn. Conditions: at most 1048577 corners and points. -/
namespace Go.Proofs.Ytkifapcegiajiaa
open Go.RowKit
set_option linter.unusedVariables false

theorem info_int : (Try.prog.info? 3).map (fun i => (i.zero, i.size, i.bytes)) = some (some (.int .i64 0), 1, 8) := by kernel_rfl
def seenF (L P : List T2) (p : T2) (k : Nat) : Bool := seesS L (at2 P k) p
def seenL (L P : List T2) (p : T2) : List Int := if patrolR L P && isIn L p then idxs (seenF L P p) P.length else []
theorem patrol_len {L P : List T2} (h : patrolR L P = true) : 1 ≤ P.length ∧ P.length ≤ 40 := by
  unfold patrolR at h
  simp only [Bool.and_eq_true] at h
  have := btw_iff.1 h.1
  omega
theorem patrol_in {L P : List T2} (h : patrolR L P = true) : allIn L P = true := by
  unfold patrolR walkR at h
  simp only [Bool.and_eq_true] at h
  exact h.2.1.2.1
theorem seenL_len (L P : List T2) (p : T2) : (seenL L P p).length ≤ 40 := by
  unfold seenL
  split
  · rename_i h
    simp only [Bool.and_eq_true] at h
    have := patrol_len h.1
    have := idxs_len (seenF L P p) P.length
    omega
  · simp
theorem own_nilS (w : World) (base : Nat) (e : TypeId) (size : Nat) : w.ownsRow base e size (.slice none 0 0) 0 [] := ⟨by simp, .inl ⟨rfl, rfl⟩⟩
set_option maxRecDepth 100000 in
set_option maxHeartbeats 1600000 in
theorem iSeen_any (A : Option Addr) (n c : Nat) (L : List T2) (B : Option Addr) (m d : Nat) (P : List T2) (p : T2) (w : World) (hl : Row w A (L.flatMap T2.v)) (hn : L.length = n) (hr : Row w B (P.flatMap T2.v)) (hm : P.length = m) (hy : m ≤ 1048577) (hro : roomS L = true) (hP : ∀ k, k < P.length → pokT (at2 P k) = true) (hp : pokT p = true) :
    Calls Try.prog 49 #[.agg #[.slice A n c], .slice B m d, .agg #[.int .i64 p.a, .int .i64 p.b]] w fun en w' => ∃ A' m' c', en = .returned (.slice A' m' c') ∧ w'.ownsRow w.heap.size 3 1 (.slice A' m' c') m' ((idxs (seenF L P p) P.length).map (Value.int .i64)) ∧ Ext w w' := by
  subst hm
  have HL := hid hl
  have HR := hid hr
  have HS := hid (fun k hk w' (h : Row w' A (L.flatMap T2.v)) => iSee_at A n c L (at2 P k) p w' h hn hro (hP k hk) hp)
  clear hl hr hro hP hp
  obtain ⟨wb, hwb⟩ : ∃ wb, wb = (w.alloc (.cells #[.slice A n c] 33)).alloc (.cells #[.int .i64 p.a, .int .i64 p.b] 35) := ⟨_, rfl⟩
  have hew : Ext w wb := by rw [hwb]; repeat (first | exact Ext.refl _ | refine Ext.alloc ?_ _ | assumption | refine Ext.over ?_ _ | refine Ext.drew ?_ | refine Ext.drewN ?_ _)
  have b0 : wb.cell? ⟨w.heap.size, 0, none⟩ = some (.slice A n c) := by rw [hwb]; go_simp
  have b1 : wb.cell? ⟨w.heap.size + 1, 0, none⟩ = some (.int .i64 p.a) := by rw [hwb]; go_simp
  have b2 : wb.cell? ⟨w.heap.size + 1, 1, none⟩ = some (.int .i64 p.b) := by rw [hwb]; go_simp
  have HSZ := hid (show wb.heap.size = w.heap.size + 1 + 1 by rw [hwb]; simp)
  have HT := hid hew
  go_enter Try.func49, Try.ntmps49
  go_wp2_with fail
  go_loopw [7, 13] (fun o i wr => ∃ (k : Nat) (A' : Option Addr) (m' c' : Nat), k ≤ P.length ∧ m' ≤ k ∧ i = .int .i64 ↑k ∧ o = .slice A' m' c' ∧ wr.ownsRow wb.heap.size 3 1 (.slice A' m' c') m' ((idxs (seenF L P p) k).map (Value.int .i64)) ∧ Ext wb wr) (fun _ i _ => (P.length - (intOf i).toNat))
  case atStart =>
    refine ⟨0, _, _, _, by omega, by omega, rfl, rfl, by rw [hwb]; exact own_empty _ _ _ (by simp) (by simp) _ _, by rw [hwb]; repeat (first | exact Ext.refl _ | refine Ext.alloc ?_ _ | assumption | refine Ext.over ?_ _ | refine Ext.drew ?_ | refine Ext.drewN ?_ _)⟩
  clear hwb hew
  case round =>
    obtain ⟨k, A', m', c', hk, hm, rfl, rfl, hown, he⟩ := hrel
    have hm9 : m' ≤ 1048577 := by omega
    have HE := hid he
    have HX := hid (HT.out.trans he)
    have r0 := old_cell he b0
    have r1 := old_cell he b1
    have r2 := old_cell he b2
    obtain ⟨x0, rfl⟩ := he.ex
    have HO := hid hown
    clear hown
    by_cases hlt : k < P.length
    · obtain ⟨bk, off, hB, hc⟩ := (HR.out.ext HX.out).t2 hlt
      obtain ⟨c1, c2⟩ := hc k hlt
      have hkt : (k : Int) < P.length := by omega
      have HSS := hid (HS.out k hlt)
      have HF := hid (show seenF L P p k = seesS L (at2 P k) p from rfl)
      subst hB
      clear hc
      generalize at2 P k = g at c1 c2 HSS HF
      cases hv : seesS L g p
      · have HI := hid (idxs_no (HF.out.trans hv))
        go_wp2_with (go_at_call 39; refine (gives_b hv (HSS.out _ (HL.out.ext (HX.out.trans (by repeat (first | exact Ext.refl _ | refine Ext.alloc ?_ _ | assumption | refine Ext.over ?_ _ | refine Ext.drew ?_ | refine Ext.drewN ?_ _)))))).over.mono ?_; rintro e w' ⟨rfl, xw, rfl⟩)
        go_roundw
        case rel => exact ⟨k + 1, A', m', c', by omega, by omega, by go_num, rfl, by rw [HI.out]; exact own_ext HO.out (by repeat (first | exact Ext.refl _ | refine Ext.alloc ?_ _ | assumption | refine Ext.over ?_ _ | refine Ext.drew ?_ | refine Ext.drewN ?_ _)), HE.out.trans (by repeat (first | exact Ext.refl _ | refine Ext.alloc ?_ _ | assumption | refine Ext.over ?_ _ | refine Ext.drew ?_ | refine Ext.drewN ?_ _))⟩
        case measure => simp [intOf]; omega
      · have HI := hid (idxs_yes (HF.out.trans hv))
        go_wp2_with (first | (go_at_call 39; refine (gives_b hv (HSS.out _ (HL.out.ext (HX.out.trans (by repeat (first | exact Ext.refl _ | refine Ext.alloc ?_ _ | assumption | refine Ext.over ?_ _ | refine Ext.drew ?_ | refine Ext.drewN ?_ _)))))).over.mono ?_; rintro e w' ⟨rfl, xw, rfl⟩) | (at_builtin; refine wpList_push (wb) rfl (.tmp 22) (.tmp 24) 28 rfl 3 Try.underlying28 info_int rfl (by decide) _ m' _ rfl (ovr wb x0) HO.out (by repeat (first | exact Ext.refl _ | refine Ext.alloc ?_ _ | assumption | refine Ext.over ?_ _ | refine Ext.drew ?_ | refine Ext.drewN ?_ _)) (by repeat (first | exact Ext.refl _ | refine Ext.alloc ?_ _ | assumption | refine Ext.over ?_ _ | refine Ext.drew ?_ | refine Ext.drewN ?_ _)) _ 1 1 [.int .i64 (k)] rfl rfl (lit_cells _ _ (by first | (simp; done) | simp [ovr_size]) _ _) (by intro u hu; simp at hu; subst hu; rfl) (by omega) (by decide) ?_))
        intro A3 c3 w3 hown3 he3
        have HO3 := hid hown3
        clear hown3 HO
        go_wp2_with fail
        go_roundw
        case rel => exact ⟨k + 1, A3, m' + 1, c3, by omega, by omega, by go_num, rfl, by rw [HI.out]; simpa using HO3.out, he3⟩
        case measure => simp [intOf]; omega
    · obtain rfl : k = P.length := by omega
      go_wp2_with fail
      go_ret
      exact ⟨_, _, _, rfl, own_base HO.out (by have := HSZ.out; omega), HX.out⟩
set_option maxRecDepth 100000 in
set_option maxHeartbeats 1600000 in
theorem iSeenOn_at (A : Option Addr) (n c : Nat) (L : List T2) (B : Option Addr) (m d : Nat) (P : List T2) (pa pb : Int) (w : World) (hl : Row w A (L.flatMap T2.v)) (hn : L.length = n) (hx : n ≤ 1048577) (hr : Row w B (P.flatMap T2.v)) (hm : P.length = m) (hy : m ≤ 1048577) :
    Calls Try.prog 24 #[.agg #[.slice A n c], .slice B m d, .agg #[.int .i64 pa, .int .i64 pb]] w fun en w' => ∃ A' m' c', en = .returned (.slice A' m' c') ∧ w'.ownsRow w.heap.size 3 1 (.slice A' m' c') m' ((seenL L P (⟨pa, pb⟩ : T2)).map (Value.int .i64)) ∧ Ext w w' := by
  obtain ⟨p, hp⟩ : ∃ p : T2, p = ⟨pa, pb⟩ := ⟨_, rfl⟩
  obtain rfl : p.a = pa := by rw [hp]
  obtain rfl : p.b = pb := by rw [hp]
  rw [show (⟨p.a, p.b⟩ : T2) = p from rfl]
  clear hp
  subst hm
  have HL := hid hl
  have HR := hid hr
  have HI := hid (fun w' (h : Row w' A (L.flatMap T2.v)) => iIsIn_any A n c L p w' h hn hx)
  clear hl hr
  unfold ptV at HI
  cases hpo : patrolR L P
  · have HV := hid (show seenL L P p = [] by unfold seenL; rw [hpo]; rfl)
    go_enter Try.func24, Try.ntmps24
    go_wp2_with fail
    refine (gives_b hpo (iPatrol_any A n c L B P.length d P _ (HL.out.ext (by repeat (first | exact Ext.refl _ | refine Ext.alloc ?_ _ | assumption | refine Ext.over ?_ _ | refine Ext.drew ?_ | refine Ext.drewN ?_ _))) hn hx (HR.out.ext (by repeat (first | exact Ext.refl _ | refine Ext.alloc ?_ _ | assumption | refine Ext.over ?_ _ | refine Ext.drew ?_ | refine Ext.drewN ?_ _))) rfl hy)).mono ?_
    rintro _ w1 ⟨rfl, e1⟩
    have E1 := hid (Ext.trans (show Ext w _ by repeat (first | exact Ext.refl _ | refine Ext.alloc ?_ _ | assumption | refine Ext.over ?_ _ | refine Ext.drew ?_ | refine Ext.drewN ?_ _)) e1)
    clear e1
    go_wp2_with fail
    go_ret
    exact ⟨_, _, _, rfl, by rw [HV.out]; exact own_nilS _ _ _ _, E1.out⟩
  cases hin : isIn L p
  · have HV := hid (show seenL L P p = [] by unfold seenL; rw [hin]; simp)
    go_enter Try.func24, Try.ntmps24
    go_wp2_with fail
    refine (gives_b hpo (iPatrol_any A n c L B P.length d P _ (HL.out.ext (by repeat (first | exact Ext.refl _ | refine Ext.alloc ?_ _ | assumption | refine Ext.over ?_ _ | refine Ext.drew ?_ | refine Ext.drewN ?_ _))) hn hx (HR.out.ext (by repeat (first | exact Ext.refl _ | refine Ext.alloc ?_ _ | assumption | refine Ext.over ?_ _ | refine Ext.drew ?_ | refine Ext.drewN ?_ _))) rfl hy)).mono ?_
    rintro _ w1 ⟨rfl, e1⟩
    have b0 : w1.cell? ⟨w.heap.size, 0, none⟩ = some (.slice A n c) := old_cell e1 (by go_simp)
    have b1 : w1.cell? ⟨w.heap.size + 1, 0, none⟩ = some (.int .i64 p.a) := old_cell e1 (by go_simp)
    have b2 : w1.cell? ⟨w.heap.size + 1, 1, none⟩ = some (.int .i64 p.b) := old_cell e1 (by go_simp)
    have E0 := hid (Ext.trans (show Ext w _ by repeat (first | exact Ext.refl _ | refine Ext.alloc ?_ _ | assumption | refine Ext.over ?_ _ | refine Ext.drew ?_ | refine Ext.drewN ?_ _)) e1)
    clear e1
    go_wp2_with fail
    refine (gives_b hin (HI.out _ (HL.out.ext E0.out))).mono ?_
    rintro _ w2 ⟨rfl, e2⟩
    have E1 := hid (E0.out.trans e2)
    clear e2
    go_wp2_with fail
    go_ret
    exact ⟨_, _, _, rfl, by rw [HV.out]; exact own_nilS _ _ _ _, E1.out⟩
  have HV := hid (show seenL L P p = idxs (seenF L P p) P.length by unfold seenL; rw [hpo, hin]; rfl)
  have hro := (isIn_room hin).1
  have hpk := (isIn_room hin).2
  have HAT := hid (fun k hk => (allIn_at (patrol_in hpo) (k := k) hk).1)
  have HSN := hid (fun w' (h : Row w' A (L.flatMap T2.v)) (h' : Row w' B (P.flatMap T2.v)) => iSeen_any A n c L B P.length d P p w' h hn h' rfl hy hro HAT.out hpk)
  go_enter Try.func24, Try.ntmps24
  go_wp2_with fail
  refine (gives_b hpo (iPatrol_any A n c L B P.length d P _ (HL.out.ext (by repeat (first | exact Ext.refl _ | refine Ext.alloc ?_ _ | assumption | refine Ext.over ?_ _ | refine Ext.drew ?_ | refine Ext.drewN ?_ _))) hn hx (HR.out.ext (by repeat (first | exact Ext.refl _ | refine Ext.alloc ?_ _ | assumption | refine Ext.over ?_ _ | refine Ext.drew ?_ | refine Ext.drewN ?_ _))) rfl hy)).mono ?_
  rintro _ w1 ⟨rfl, e1⟩
  have b0 : w1.cell? ⟨w.heap.size, 0, none⟩ = some (.slice A n c) := old_cell e1 (by go_simp)
  have b1 : w1.cell? ⟨w.heap.size + 1, 0, none⟩ = some (.int .i64 p.a) := old_cell e1 (by go_simp)
  have b2 : w1.cell? ⟨w.heap.size + 1, 1, none⟩ = some (.int .i64 p.b) := old_cell e1 (by go_simp)
  have E0 := hid (Ext.trans (show Ext w _ by repeat (first | exact Ext.refl _ | refine Ext.alloc ?_ _ | assumption | refine Ext.over ?_ _ | refine Ext.drew ?_ | refine Ext.drewN ?_ _)) e1)
  clear e1
  go_wp2_with fail
  refine (gives_b hin (HI.out _ (HL.out.ext E0.out))).mono ?_
  rintro _ w2 ⟨rfl, e2⟩
  have E1 := hid (E0.out.trans e2)
  have b0 := old_cell e2 b0
  have b1 := old_cell e2 b1
  have b2 := old_cell e2 b2
  clear e2 E0
  go_wp2_with fail
  refine (HSN.out _ (HL.out.ext E1.out) (HR.out.ext E1.out)).mono ?_
  rintro _ w3 ⟨A3, m3, c3, rfl, ho, he⟩
  have HO := hid (own_base ho E1.out.size)
  have HE := hid (E1.out.trans he)
  clear ho he
  go_wp2_with fail
  go_ret
  exact ⟨A3, m3, c3, rfl, by rw [HV.out]; exact HO.out, HE.out⟩
end Go.Proofs.Ytkifapcegiajiaa
/- Walks: gapOf, l22Gap, LongestGap. Conditions: sizes. -/
namespace Go.Proofs.Ytkifapcegiajiaa
open Go.RowKit
set_option linter.unusedVariables false

def gapN (l : List Int) (z : Int) : Nat → Int
  | 0 => atI l 0 + z - atI l (l.length - 1)
  | k + 1 => max (gapN l z k) (atI l (k + 1) - atI l k)
def gapZ (l : List Int) (z : Int) : Int := if l.length = 0 then -1 else gapN l z (l.length - 1)
theorem gapN_bd {l : List Int} {z M : Int} (hz : 0 ≤ z ∧ z ≤ M) (hb : ∀ k, k < l.length → 0 ≤ atI l k ∧ atI l k ≤ M) : ∀ k, k < l.length → -M ≤ gapN l z k ∧ gapN l z k ≤ 2 * M
  | 0, h => by
    have h1 := hb 0 h
    have h2 := hb (l.length - 1) (by omega)
    simp only [gapN]; omega
  | k + 1, h => by
    have ih := gapN_bd hz hb k (by omega)
    have h1 := hb k (by omega)
    have h2 := hb (k + 1) h
    simp only [gapN]; omega
set_option maxRecDepth 100000 in
set_option maxHeartbeats 1600000 in
theorem gapOf_any (A : Option Addr) (n c : Nat) (l : List Int) (z : Int) (w : World) (hr : Row w A (l.map (Value.int .i64))) (hl : l.length = n) (hx : n ≤ 1048577) (hb : ∀ k, k < l.length → 0 ≤ atI l k ∧ atI l k ≤ 1048577) (hz : 0 ≤ z ∧ z ≤ 1048577) : Gives Try.prog 47 #[.slice A n c, .int .i64 z] w (.int .i64 (gapZ l z)) := by
  subst hl
  have HR := hid hr
  clear hr
  by_cases h0 : l.length = 0
  · have HV := hid (show gapZ l z = -1 by unfold gapZ; rw [if_pos h0])
    rw [h0]
    (unfold Gives; go_enter Try.func47, Try.ntmps47)
    go_wp2_with fail
    go_ret
    exact ⟨by rw [HV.out]; rfl, by repeat (first | exact Ext.refl _ | refine Ext.alloc ?_ _ | assumption | refine Ext.over ?_ _ | refine Ext.drew ?_ | refine Ext.drewN ?_ _)⟩
  have HV := hid (show gapZ l z = gapN l z (l.length - 1) by unfold gapZ; rw [if_neg h0])
  have hpos : 0 < l.length := by omega
  have h0' : (0 : Int) < l.length := by omega
  have hne : ((l.length : Int) == 0) = false := by rw [beq_eq_false_iff_ne]; omega
  have HBD := hid (gapN_bd hz hb)
  have HB := hid hb
  obtain ⟨im, him⟩ : ∃ im, im = l.length - 1 := ⟨_, rfl⟩
  have hwj : IntKind.i64.wrap ((l.length : Int) - 1) = (im : Int) := by rw [IntWalk.i64_in _ (by omega)]; omega
  have him' : (im : Int) < l.length := by omega
  obtain ⟨bk, off, hB, hc⟩ := HR.out.ints hpos
  have c0 := hc 0 hpos
  have ce := hc im (by omega)
  rw [Nat.add_zero] at c0
  have HV0 := hid (show gapN l z 0 = atI l 0 + z - atI l im by rw [him]; rfl)
  have b1 := hb 0 hpos
  have b2 := hb im (by omega)
  subst hB
  clear hc h0 him hb
  generalize atI l im = x1 at ce HV0 b2
  generalize atI l 0 = x0 at c0 HV0 b1
  (unfold Gives; go_enter Try.func47, Try.ntmps47)
  go_wp2_with fail
  (refine wp_region_calm (by kernel_rfl) (by kernel_rfl) ?_; (repeat (go_big_quiet_step (fail))); refine wpQuiet_nil ?_; rintro w1 ⟨x1, rfl⟩)
  go_wp2_with fail
  go_loopw [5, 6] (fun mv iv wr => ∃ (i : Nat), i < l.length ∧ iv = .int .i64 (↑(i + 1)) ∧ mv = .int .i64 (gapN l z i) ∧ Ext w wr) (fun _ iv _ => l.length + 1 - (intOf iv).toNat)
  case atStart => exact ⟨0, hpos, by go_num, by rw [HV0.out], by repeat (first | exact Ext.refl _ | refine Ext.alloc ?_ _ | assumption | refine Ext.over ?_ _ | refine Ext.drew ?_ | refine Ext.drewN ?_ _)⟩
  case round =>
    clear c0 ce hwj
    obtain ⟨i, hi, rfl, rfl, he⟩ := hrel
    have HE := hid he
    have hg := HBD.out i hi
    clear he
    obtain ⟨k, hk⟩ : ∃ k, k = i + 1 := ⟨_, rfl⟩
    rw [← hk]
    by_cases hlt : k < l.length
    · have hkt : (k : Int) < l.length := by omega
      have hit : (i : Int) < l.length := by omega
      have hwi : IntKind.i64.wrap ((k : Int) - 1) = (i : Int) := by rw [IntWalk.i64_in _ (by omega)]; omega
      obtain ⟨bk2, off2, hB, hc⟩ := (HR.out.ext HE.out).ints hlt
      have c1 := hc k hlt
      have c2 := hc i hi
      have HS := hid (show gapN l z k = max (gapN l z i) (atI l k - atI l i) by rw [hk]; rfl)
      have b3 := HB.out k hlt
      have b4 := HB.out i hi
      have HK := hid hk
      cases hB
      clear hc hk
      generalize gapN l z i = g at hg HS ⊢
      generalize atI l k = xk at c1 b3 HS
      generalize atI l i = xi at c2 b4 HS
      go_wp2_with fail
      (refine wp_region_calm (by kernel_rfl) (by kernel_rfl) ?_; (repeat (go_big_quiet_step (fail))); refine wpQuiet_nil ?_; rintro w1 ⟨x1, rfl⟩)
      go_wp2_with fail
      go_roundw
      case rel => exact ⟨k, hlt, by go_num, by rw [HS.out]; congr 1; first | omega | (split <;> omega), HE.out.trans (by repeat (first | exact Ext.refl _ | refine Ext.alloc ?_ _ | assumption | refine Ext.over ?_ _ | refine Ext.drew ?_ | refine Ext.drewN ?_ _))⟩
      case measure => have := HK.out; simp [intOf]; omega
    · have HE2 := hid (show gapZ l z = gapN l z i by rw [HV.out]; congr 1; omega)
      have hkt : ¬ (k : Int) < l.length := by omega
      go_wp2_with fail
      go_ret
      exact ⟨by rw [HE2.out]; rfl, HE.out⟩
theorem idxs_bd {p : Nat → Bool} {n k : Nat} (hk : k < (idxs p n).length) : 0 ≤ atI (idxs p n) k ∧ atI (idxs p n) k < n := by
  have : atI (idxs p n) k ∈ idxs p n := by rw [atI_eq _ _ hk]; exact List.getElem_mem hk
  obtain ⟨j, h1, h2, _⟩ := idxs_mem.1 this
  omega
theorem seenL_bd (L P : List T2) (p : T2) {k : Nat} (hk : k < (seenL L P p).length) : 0 ≤ atI (seenL L P p) k ∧ atI (seenL L P p) k ≤ 1048577 := by
  unfold seenL at *
  split at hk
  · rename_i h
    rw [if_pos h]
    simp only [Bool.and_eq_true] at h
    have := patrol_len h.1
    have := idxs_bd hk
    omega
  · simp at hk
def gapR (L P : List T2) (p : T2) : Int := gapZ (seenL L P p) P.length
theorem own_len1S {w : World} {b : Nat} {e : TypeId} {n : Nat} {v : Value} {l : List Int} (h : w.ownsRow b e 1 v n (l.map (Value.int .i64))) : l.length = n := by
  have := h.1; simp only [List.length_map] at this; omega
set_option maxRecDepth 100000 in
set_option maxHeartbeats 1600000 in
theorem iGap_at (A : Option Addr) (n c : Nat) (L : List T2) (B : Option Addr) (m d : Nat) (P : List T2) (pa pb : Int) (w : World) (hl : Row w A (L.flatMap T2.v)) (hn : L.length = n) (hx : n ≤ 1048577) (hr : Row w B (P.flatMap T2.v)) (hm : P.length = m) (hy : m ≤ 1048577) :
    Gives Try.prog 20 #[.agg #[.slice A n c], .slice B m d, .agg #[.int .i64 pa, .int .i64 pb]] w (.int .i64 (gapR L P (⟨pa, pb⟩ : T2))) := by
  subst hm
  have HL := hid hl
  have HR := hid hr
  have HV := hid (show gapR L P (⟨pa, pb⟩ : T2) = gapZ (seenL L P (⟨pa, pb⟩ : T2)) P.length from rfl)
  have HB := hid (fun k hk => seenL_bd L P (⟨pa, pb⟩ : T2) (k := k) hk)
  have h40 := seenL_len L P (⟨pa, pb⟩ : T2)
  have HZ := hid (show (0 : Int) ≤ P.length ∧ (P.length : Int) ≤ 1048577 by omega)
  clear hl hr
  (unfold Gives; go_enter Try.func20, Try.ntmps20)
  go_wp2_with fail
  refine (iSeenOn_at A n c L B P.length d P pa pb _ (HL.out.ext (by repeat (first | exact Ext.refl _ | refine Ext.alloc ?_ _ | assumption | refine Ext.over ?_ _ | refine Ext.drew ?_ | refine Ext.drewN ?_ _))) hn hx (HR.out.ext (by repeat (first | exact Ext.refl _ | refine Ext.alloc ?_ _ | assumption | refine Ext.over ?_ _ | refine Ext.drew ?_ | refine Ext.drewN ?_ _))) rfl hy).mono ?_
  rintro _ w1 ⟨A1, m1, c1, rfl, ho, e1⟩
  have hm1 := own_len1S ho
  have E1 := hid (Ext.trans (show Ext w _ by repeat (first | exact Ext.refl _ | refine Ext.alloc ?_ _ | assumption | refine Ext.over ?_ _ | refine Ext.drew ?_ | refine Ext.drewN ?_ _)) e1)
  have HO := hid (Row.of_own ho)
  clear ho e1
  generalize seenL L P (⟨pa, pb⟩ : T2) = l at *
  subst hm1
  go_wp2_with (go_at_call 47; refine (gapOf_any A1 l.length c1 l P.length _ (HO.out.ext (by repeat (first | exact Ext.refl _ | refine Ext.alloc ?_ _ | assumption | refine Ext.over ?_ _ | refine Ext.drew ?_ | refine Ext.drewN ?_ _))) rfl (by omega) HB.out HZ.out).over.mono ?_; rintro e w' ⟨rfl, xw, rfl⟩)
  go_ret
  exact ⟨by rw [HV.out]; rfl, E1.out.trans (by repeat (first | exact Ext.refl _ | refine Ext.alloc ?_ _ | assumption | refine Ext.over ?_ _ | refine Ext.drew ?_ | refine Ext.drewN ?_ _))⟩
end Go.Proofs.Ytkifapcegiajiaa
/- Walks: seenBySome, SeesAll, WatchesAll, WorstGap. Conditions: at most 1048577 corners and points. -/
namespace Go.Proofs.Ytkifapcegiajiaa
open Go.RowKit
set_option linter.unusedVariables false

def seenAny (L P : List T2) (p : T2) : Bool := !allN P.length (fun k => !seenF L P p k)
theorem seenAny_yes {L P : List T2} {p : T2} {k : Nat} (hk : k < P.length) (h : seenF L P p k = true) : seenAny L P p = true := by
  unfold seenAny; rw [allN_false hk (by rw [h]; rfl)]; rfl
theorem seenAny_no {L P : List T2} {p : T2} (h : ∀ k, k < P.length → seenF L P p k = false) : seenAny L P p = false := by
  unfold seenAny; rw [allN_true fun k hk => by rw [h k hk]; rfl]; rfl
def floorSeen (L P : List T2) : Bool := allN (floorL L).length fun j => seenAny L P (at2 (floorL L) j)
def seesAllR (L P : List T2) : Bool := allIn L P && floorSeen L P
def watchR (L P : List T2) : Bool := patrolR L P && floorSeen L P
theorem watch_all (L P : List T2) : watchR L P = (patrolR L P && seesAllR L P) := by
  unfold watchR seesAllR
  cases h : patrolR L P
  · rfl
  · rw [patrol_in h]; rfl
def gapF (L P : List T2) (j : Nat) : Int := gapZ (idxs (seenF L P (at2 (floorL L) j)) P.length) P.length
def maxF (f : Nat → Int) : Nat → Int
  | 0 => 0
  | k + 1 => max (maxF f k) (f k)
def worstR (L P : List T2) : Int := if watchR L P then maxF (gapF L P) (floorL L).length else -1
theorem idxs_some {q : Nat → Bool} {n : Nat} : (idxs q n).length = 0 ↔ ∀ k, k < n → q k = false := by
  constructor
  · intro h k hk
    cases hq : q k
    · rfl
    · have hm : (k : Int) ∈ idxs q n := idxs_mem.2 ⟨k, rfl, hk, hq⟩
      rw [List.eq_nil_of_length_eq_zero h] at hm
      cases hm
  · intro h
    rcases Nat.eq_zero_or_pos (idxs q n).length with h0 | h0
    · exact h0
    · obtain ⟨j, _, h2, h3⟩ := idxs_mem.1 (List.getElem_mem h0)
      rw [h j h2] at h3; cases h3
theorem gapN_mono (l : List Int) (z : Int) : ∀ k, gapN l z 0 ≤ gapN l z k
  | 0 => Int.le_refl _
  | k + 1 => by have := gapN_mono l z k; simp only [gapN] at *; omega
theorem gap_pos {q : Nat → Bool} {n : Nat} (h : (idxs q n).length ≠ 0) : 1 ≤ gapZ (idxs q n) n := by
  unfold gapZ
  rw [if_neg h]
  have h1 := idxs_bd (p := q) (n := n) (k := 0) (by omega)
  have h2 := idxs_bd (p := q) (n := n) (k := (idxs q n).length - 1) (by omega)
  have h3 := gapN_mono (idxs q n) n ((idxs q n).length - 1)
  simp only [gapN] at h3 h3
  have : gapN (idxs q n) n 0 = atI (idxs q n) 0 + n - atI (idxs q n) ((idxs q n).length - 1) := rfl
  omega
theorem gap_neg {q : Nat → Bool} {n : Nat} : (idxs q n).length = 0 ↔ gapZ (idxs q n) n < 0 := by
  constructor
  · intro h; unfold gapZ; rw [if_pos h]; omega
  · intro h
    rcases Nat.eq_zero_or_pos (idxs q n).length with h0 | h0
    · exact h0
    · have := gap_pos (q := q) (n := n) (by omega); omega
theorem gap_le {q : Nat → Bool} {n : Nat} : -1 ≤ gapZ (idxs q n) n ∧ gapZ (idxs q n) n ≤ 2 * n := by
  rcases Nat.eq_zero_or_pos (idxs q n).length with h0 | h0
  · unfold gapZ; rw [if_pos h0]; omega
  · have h1 := gap_pos (q := q) (n := n) (by omega)
    have h2 := gapN_bd (l := idxs q n) (z := n) (M := n) (by omega) (fun k hk => by have := idxs_bd hk; omega) ((idxs q n).length - 1) (by omega)
    have : gapZ (idxs q n) n = gapN (idxs q n) n ((idxs q n).length - 1) := by unfold gapZ; rw [if_neg (by omega)]
    omega
theorem seen_gap (L P : List T2) (j : Nat) : seenAny L P (at2 (floorL L) j) = decide (0 ≤ gapF L P j) := by
  rw [Bool.eq_iff_iff, decide_eq_true_iff]
  unfold gapF
  constructor
  · intro h
    rcases Int.lt_or_le (gapZ (idxs (seenF L P (at2 (floorL L) j)) P.length) P.length) 0 with h1 | h1
    · have := seenAny_no (idxs_some.1 (gap_neg.2 h1))
      rw [this] at h; cases h
    · exact h1
  · intro h
    cases hs : seenAny L P (at2 (floorL L) j)
    · unfold seenAny at hs
      simp only [Bool.not_eq_false'] at hs
      have : (idxs (seenF L P (at2 (floorL L) j)) P.length).length = 0 := idxs_some.2 fun k hk => by have := allN_iff.1 hs k hk; simpa using this
      have := gap_neg.1 this
      omega
    · rfl
theorem maxF_bd {f : Nat → Int} {M : Int} (hM : 0 ≤ M) : ∀ k, (∀ j, j < k → f j ≤ M) → 0 ≤ maxF f k ∧ maxF f k ≤ M
  | 0, _ => by simp only [maxF]; omega
  | k + 1, h => by
    have ih := maxF_bd (f := f) hM k (fun j hj => h j (by omega))
    have := h k (by omega)
    simp only [maxF]; omega
theorem maxF_ge {f : Nat → Int} : ∀ k j, j < k → f j ≤ maxF f k
  | 0, j, h => by omega
  | k + 1, j, h => by
    simp only [maxF]
    rcases Nat.lt_or_ge j k with h' | h'
    · have := maxF_ge (f := f) k j h'; omega
    · obtain rfl : j = k := by omega
      omega
set_option maxRecDepth 100000 in
set_option maxHeartbeats 1600000 in
theorem bySome_any (A : Option Addr) (n c : Nat) (L : List T2) (B : Option Addr) (m d : Nat) (P : List T2) (p : T2) (w : World) (hl : Row w A (L.flatMap T2.v)) (hn : L.length = n) (hr : Row w B (P.flatMap T2.v)) (hm : P.length = m) (hy : m ≤ 1048577) (hro : roomS L = true) (hP : ∀ k, k < P.length → pokT (at2 P k) = true) (hp : pokT p = true) :
    Gives Try.prog 52 #[.agg #[.slice A n c], .slice B m d, .agg #[.int .i64 p.a, .int .i64 p.b]] w (.bool (seenAny L P p)) := by
  subst hm
  have HL := hid hl
  have HR := hid hr
  have HS := hid (fun k hk w' (h : Row w' A (L.flatMap T2.v)) => iSee_at A n c L (at2 P k) p w' h hn hro (hP k hk) hp)
  clear hl hr hro hP hp
  (unfold Gives; go_enter Try.func52, Try.ntmps52)
  go_wp2_with fail
  obtain ⟨wb, hwb⟩ : ∃ wb, wb = (w.alloc (.cells #[.slice A n c] 33)).alloc (.cells #[.int .i64 p.a, .int .i64 p.b] 35) := ⟨_, rfl⟩
  have hew : Ext w wb := by rw [hwb]; repeat (first | exact Ext.refl _ | refine Ext.alloc ?_ _ | assumption | refine Ext.over ?_ _ | refine Ext.drew ?_ | refine Ext.drewN ?_ _)
  have b0 : wb.cell? ⟨w.heap.size, 0, none⟩ = some (.slice A n c) := by rw [hwb]; go_simp
  have b1 : wb.cell? ⟨w.heap.size + 1, 0, none⟩ = some (.int .i64 p.a) := by rw [hwb]; go_simp
  have b2 : wb.cell? ⟨w.heap.size + 1, 1, none⟩ = some (.int .i64 p.b) := by rw [hwb]; go_simp
  have HT := hid hew
  rw [← hwb]
  generalize w.heap.size = gr at b0 b1 b2 ⊢
  clear hwb hew
  go_loopw [11] (fun kv wr => ∃ (k : Nat), k ≤ P.length ∧ kv = .int .i64 ↑k ∧ (∀ j, j < k → seenF L P p j = false) ∧ Ext wb wr) (fun kv _ => P.length - (intOf kv).toNat)
  case atStart => exact ⟨0, by omega, rfl, by omega, Ext.refl _⟩
  case round =>
    obtain ⟨k, hk, rfl, hall, he⟩ := hrel
    have HA := hid hall
    have HE := hid he
    have HX := hid (HT.out.trans he)
    have r0 := old_cell he b0
    have r1 := old_cell he b1
    have r2 := old_cell he b2
    clear hall he
    by_cases hlt : k < P.length
    · obtain ⟨bk, off, hB, hc⟩ := (HR.out.ext HX.out).t2 hlt
      obtain ⟨c1, c2⟩ := hc k hlt
      have hkt : (k : Int) < P.length := by omega
      have HSS := hid (HS.out k hlt)
      have HYES := hid (fun (h : seesS L (at2 P k) p = true) => seenAny_yes (L := L) (p := p) hlt h)
      have HNO := hid (fun (h : seesS L (at2 P k) p = false) => lt_succ_all (P := fun j => seenF L P p j = false) (k := k) HA.out h)
      subst hB
      clear hc
      generalize at2 P k = g at c1 c2 HSS HYES HNO
      cases hv : seesS L g p
      · have HN := hid (HNO.out hv)
        go_wp2_with (go_at_call 39; refine (gives_b hv (HSS.out _ (HL.out.ext (HX.out.trans (by repeat (first | exact Ext.refl _ | refine Ext.alloc ?_ _ | assumption | refine Ext.over ?_ _ | refine Ext.drew ?_ | refine Ext.drewN ?_ _)))))).over.mono ?_; rintro e w' ⟨rfl, xw, rfl⟩)
        go_roundw
        case rel => exact ⟨k + 1, by omega, by go_num, HN.out, HE.out.trans (by repeat (first | exact Ext.refl _ | refine Ext.alloc ?_ _ | assumption | refine Ext.over ?_ _ | refine Ext.drew ?_ | refine Ext.drewN ?_ _))⟩
        case measure => simp [intOf]; omega
      · have HV := hid (HYES.out hv)
        go_wp2_with (go_at_call 39; refine (gives_b hv (HSS.out _ (HL.out.ext (HX.out.trans (by repeat (first | exact Ext.refl _ | refine Ext.alloc ?_ _ | assumption | refine Ext.over ?_ _ | refine Ext.drew ?_ | refine Ext.drewN ?_ _)))))).over.mono ?_; rintro e w' ⟨rfl, xw, rfl⟩)
        go_ret
        exact ⟨by rw [HV.out]; rfl, HX.out.trans (by repeat (first | exact Ext.refl _ | refine Ext.alloc ?_ _ | assumption | refine Ext.over ?_ _ | refine Ext.drew ?_ | refine Ext.drewN ?_ _))⟩
    · obtain rfl : k = P.length := by omega
      have HV := hid (seenAny_no HA.out)
      go_wp2_with fail
      go_ret
      exact ⟨by rw [HV.out]; rfl, HX.out⟩
theorem floor_pok {L : List T2} (hr : roomS L = true) {k : Nat} (hk : k < (floorL L).length) : pokT (at2 (floorL L) k) = true := (floor_at hr hk).1
set_option maxRecDepth 100000 in
set_option maxHeartbeats 1600000 in
theorem seesAll_any (A : Option Addr) (n c : Nat) (L : List T2) (B : Option Addr) (m d : Nat) (P : List T2) (w : World) (hl : Row w A (L.flatMap T2.v)) (hn : L.length = n) (hx : n ≤ 1048577) (hr : Row w B (P.flatMap T2.v)) (hm : P.length = m) (hy : m ≤ 1048577) : Gives Try.prog 25 #[.agg #[.slice A n c], .slice B m d] w (.bool (seesAllR L P)) := by
  subst hm
  have HL := hid hl
  have HR := hid hr
  clear hl hr
  cases hal : allIn L P
  · have HV := hid (show seesAllR L P = false by unfold seesAllR; rw [hal]; rfl)
    (unfold Gives; go_enter Try.func25, Try.ntmps25)
    go_wp2_with (go_at_call 37; refine (gives_b hal (allIn_any A n c L B P.length d P _ (HL.out.ext (by repeat (first | exact Ext.refl _ | refine Ext.alloc ?_ _ | assumption | refine Ext.over ?_ _ | refine Ext.drew ?_ | refine Ext.drewN ?_ _))) hn hx (HR.out.ext (by repeat (first | exact Ext.refl _ | refine Ext.alloc ?_ _ | assumption | refine Ext.over ?_ _ | refine Ext.drew ?_ | refine Ext.drewN ?_ _))) rfl hy)).over.mono ?_; rintro e w' ⟨rfl, xw, rfl⟩)
    go_ret
    exact ⟨by rw [HV.out]; rfl, by repeat (first | exact Ext.refl _ | refine Ext.alloc ?_ _ | assumption | refine Ext.over ?_ _ | refine Ext.drew ?_ | refine Ext.drewN ?_ _)⟩
  have HV := hid (show seesAllR L P = allN (floorL L).length fun j => seenAny L P (at2 (floorL L) j) by unfold seesAllR; rw [hal]; rfl)
  have hro := allIn_room hal
  have HFO := hid (fun k hk => floor_pok hro (k := k) hk)
  have hfl := floor_len hro
  have HS := hid (fun p (hp : pokT p = true) w' (h : Row w' A (L.flatMap T2.v)) (h' : Row w' B (P.flatMap T2.v)) => bySome_any A n c L B P.length d P p w' h hn h' rfl hy hro (fun k hk => (allIn_at hal hk).1) hp)
  (unfold Gives; go_enter Try.func25, Try.ntmps25)
  go_wp2_with fail
  refine (gives_b hal (allIn_any A n c L B P.length d P _ (HL.out.ext (by repeat (first | exact Ext.refl _ | refine Ext.alloc ?_ _ | assumption | refine Ext.over ?_ _ | refine Ext.drew ?_ | refine Ext.drewN ?_ _))) hn hx (HR.out.ext (by repeat (first | exact Ext.refl _ | refine Ext.alloc ?_ _ | assumption | refine Ext.over ?_ _ | refine Ext.drew ?_ | refine Ext.drewN ?_ _))) rfl hy)).mono ?_
  rintro _ w1 ⟨rfl, e1⟩
  have b0 : w1.cell? ⟨w.heap.size, 0, none⟩ = some (.slice A n c) := old_cell e1 (by go_simp)
  have E1 := hid (Ext.trans (show Ext w _ by repeat (first | exact Ext.refl _ | refine Ext.alloc ?_ _ | assumption | refine Ext.over ?_ _ | refine Ext.drew ?_ | refine Ext.drewN ?_ _)) e1)
  clear e1
  go_wp2_with fail
  refine (floor_any A n c L _ (HL.out.ext E1.out) hn hro).mono ?_
  rintro _ w2 ⟨D, q, c1, rfl, ho, he⟩
  have hq := own_len2 ho
  have b0 := old_cell he b0
  have H1 := hid (E1.out.trans he)
  have HD := hid (Row.of_own ho)
  generalize w.heap.size = gr at b0 ⊢
  generalize hF : floorL L = F at *
  subst hq
  clear ho he hro hal
  go_wp2_with fail
  go_loopw [14] (fun kv wr => ∃ (k : Nat), k ≤ F.length ∧ kv = .int .i64 ↑k ∧ (∀ j, j < k → seenAny L P (at2 F j) = true) ∧ Ext w2 wr) (fun kv _ => F.length - (intOf kv).toNat)
  case atStart => exact ⟨0, by omega, rfl, by omega, Ext.refl _⟩
  case round =>
    obtain ⟨k, hk, rfl, hall, he⟩ := hrel
    have HA := hid hall
    have HE := hid he
    have HX := hid (H1.out.trans he)
    have r0 := old_cell he b0
    clear hall he
    by_cases hlt : k < F.length
    · obtain ⟨blk, off, hB, hc⟩ := (HD.out.ext HE.out).t2 hlt
      obtain ⟨c1, c2⟩ := hc k hlt
      have HM := hid (HS.out (at2 F k) (HFO.out k hlt))
      have HNO := hid (fun (h : seenAny L P (at2 F k) = false) => (show allN F.length (fun j => seenAny L P (at2 F j)) = false from allN_false hlt h))
      have HYES := hid (fun (h : seenAny L P (at2 F k) = true) => lt_succ_all (P := fun j => seenAny L P (at2 F j) = true) (k := k) HA.out h)
      subst hB
      clear hc
      generalize at2 F k = p at c1 c2 HM HNO HYES
      cases hv : seenAny L P p
      · have HV2 := hid (HV.out.trans (HNO.out hv))
        go_wp2_with (go_at_call 52; refine (gives_b hv (HM.out _ (HL.out.ext (HX.out.trans (by repeat (first | exact Ext.refl _ | refine Ext.alloc ?_ _ | assumption | refine Ext.over ?_ _ | refine Ext.drew ?_ | refine Ext.drewN ?_ _)))) (HR.out.ext (HX.out.trans (by repeat (first | exact Ext.refl _ | refine Ext.alloc ?_ _ | assumption | refine Ext.over ?_ _ | refine Ext.drew ?_ | refine Ext.drewN ?_ _)))))).over.mono ?_; rintro e w' ⟨rfl, xw, rfl⟩)
        go_ret
        exact ⟨by rw [HV2.out]; rfl, HX.out.trans (by repeat (first | exact Ext.refl _ | refine Ext.alloc ?_ _ | assumption | refine Ext.over ?_ _ | refine Ext.drew ?_ | refine Ext.drewN ?_ _))⟩
      · have HN := hid (HYES.out hv)
        go_wp2_with (go_at_call 52; refine (gives_b hv (HM.out _ (HL.out.ext (HX.out.trans (by repeat (first | exact Ext.refl _ | refine Ext.alloc ?_ _ | assumption | refine Ext.over ?_ _ | refine Ext.drew ?_ | refine Ext.drewN ?_ _)))) (HR.out.ext (HX.out.trans (by repeat (first | exact Ext.refl _ | refine Ext.alloc ?_ _ | assumption | refine Ext.over ?_ _ | refine Ext.drew ?_ | refine Ext.drewN ?_ _)))))).over.mono ?_; rintro e w' ⟨rfl, xw, rfl⟩)
        go_roundw
        case rel => exact ⟨k + 1, by omega, by go_num, HN.out, HE.out.trans (by repeat (first | exact Ext.refl _ | refine Ext.alloc ?_ _ | assumption | refine Ext.over ?_ _ | refine Ext.drew ?_ | refine Ext.drewN ?_ _))⟩
        case measure => simp [intOf]; omega
    · obtain rfl : k = F.length := by omega
      have HV2 := hid (show seesAllR L P = true by rw [HV.out]; exact allN_true HA.out)
      go_wp2_with fail
      go_ret
      exact ⟨by rw [HV2.out]; rfl, HX.out⟩
set_option maxRecDepth 100000 in
theorem iWatches_any (A : Option Addr) (n c : Nat) (L : List T2) (B : Option Addr) (m d : Nat) (P : List T2) (w : World) (hl : Row w A (L.flatMap T2.v)) (hn : L.length = n) (hx : n ≤ 1048577) (hr : Row w B (P.flatMap T2.v)) (hm : P.length = m) (hy : m ≤ 1048577) : Gives Try.prog 23 #[.agg #[.slice A n c], .slice B m d] w (.bool (watchR L P)) := by
  have HL := hid hl
  have HR := hid hr
  clear hl hr
  rw [watch_all]
  cases hp : patrolR L P
  all_goals
    (unfold Gives; go_enter Try.func23, Try.ntmps23)
    go_wp2_with (first | (go_at_call 22; refine (gives_b hp (iPatrol_any A n c L B m d P _ (HL.out.ext (by repeat (first | exact Ext.refl _ | refine Ext.alloc ?_ _ | assumption | refine Ext.over ?_ _ | refine Ext.drew ?_ | refine Ext.drewN ?_ _))) hn hx (HR.out.ext (by repeat (first | exact Ext.refl _ | refine Ext.alloc ?_ _ | assumption | refine Ext.over ?_ _ | refine Ext.drew ?_ | refine Ext.drewN ?_ _))) hm hy)).over.mono ?_; rintro e w' ⟨rfl, xw, rfl⟩) | (go_at_call 25; refine (seesAll_any A n c L B m d P _ (HL.out.ext (by repeat (first | exact Ext.refl _ | refine Ext.alloc ?_ _ | assumption | refine Ext.over ?_ _ | refine Ext.drew ?_ | refine Ext.drewN ?_ _))) hn hx (HR.out.ext (by repeat (first | exact Ext.refl _ | refine Ext.alloc ?_ _ | assumption | refine Ext.over ?_ _ | refine Ext.drew ?_ | refine Ext.drewN ?_ _))) hm hy).over.mono ?_; rintro e w' ⟨rfl, xw, rfl⟩))
    go_ret
    exact ⟨rfl, by repeat (first | exact Ext.refl _ | refine Ext.alloc ?_ _ | assumption | refine Ext.over ?_ _ | refine Ext.drew ?_ | refine Ext.drewN ?_ _)⟩
theorem patrol_room {L P : List T2} (h : patrolR L P = true) : roomS L = true := allIn_room (patrol_in h)
theorem gapF_40 {L P : List T2} (h : P.length ≤ 40) (j : Nat) : -1 ≤ gapF L P j ∧ gapF L P j ≤ 80 := by
  have := gap_le (q := seenF L P (at2 (floorL L) j)) (n := P.length)
  unfold gapF; omega
set_option maxRecDepth 100000 in
set_option maxHeartbeats 1600000 in
theorem iWorst_any (A : Option Addr) (n c : Nat) (L : List T2) (B : Option Addr) (m d : Nat) (P : List T2) (w : World) (hl : Row w A (L.flatMap T2.v)) (hn : L.length = n) (hx : n ≤ 1048577) (hr : Row w B (P.flatMap T2.v)) (hm : P.length = m) (hy : m ≤ 1048577) : Gives Try.prog 21 #[.agg #[.slice A n c], .slice B m d] w (.int .i64 (worstR L P)) := by
  subst hm
  have HL := hid hl
  have HR := hid hr
  clear hl hr
  cases hw : watchR L P
  · have HV := hid (show worstR L P = -1 by unfold worstR; rw [hw]; rfl)
    (unfold Gives; go_enter Try.func21, Try.ntmps21)
    go_wp2_with (go_at_call 23; refine (gives_b hw (iWatches_any A n c L B P.length d P _ (HL.out.ext (by repeat (first | exact Ext.refl _ | refine Ext.alloc ?_ _ | assumption | refine Ext.over ?_ _ | refine Ext.drew ?_ | refine Ext.drewN ?_ _))) hn hx (HR.out.ext (by repeat (first | exact Ext.refl _ | refine Ext.alloc ?_ _ | assumption | refine Ext.over ?_ _ | refine Ext.drew ?_ | refine Ext.drewN ?_ _))) rfl hy)).over.mono ?_; rintro e w' ⟨rfl, xw, rfl⟩)
    go_ret
    exact ⟨by rw [HV.out]; rfl, by repeat (first | exact Ext.refl _ | refine Ext.alloc ?_ _ | assumption | refine Ext.over ?_ _ | refine Ext.drew ?_ | refine Ext.drewN ?_ _)⟩
  have hpo : patrolR L P = true := by unfold watchR at hw; simp only [Bool.and_eq_true] at hw; exact hw.1
  have hro := patrol_room hpo
  have h40 := patrol_len hpo
  have HV := hid (show worstR L P = maxF (gapF L P) (floorL L).length by unfold worstR; rw [hw]; rfl)
  have HFO := hid (fun k hk => floor_pok hro (k := k) hk)
  have hfl := floor_len hro
  have HG := hid (fun j => gapF_40 (L := L) h40.2 j)
  have HMX := hid (fun k => maxF_bd (f := gapF L P) (M := 80) (by omega) k (fun j _ => (HG.out j).2))
  have HS := hid (fun p (hp : pokT p = true) w' (h : Row w' A (L.flatMap T2.v)) (h' : Row w' B (P.flatMap T2.v)) => iSeen_any A n c L B P.length d P p w' h hn h' rfl hy hro (fun k hk => (allIn_at (patrol_in hpo) hk).1) hp)
  have HZ := hid (show (0 : Int) ≤ P.length ∧ (P.length : Int) ≤ 1048577 by omega)
  have HB := hid (fun (q : Nat → Bool) k (hk : k < (idxs q P.length).length) => (show 0 ≤ atI (idxs q P.length) k ∧ atI (idxs q P.length) k ≤ 1048577 by have := idxs_bd hk; omega))
  have HLN := hid (fun (q : Nat → Bool) => idxs_len q P.length)
  (unfold Gives; go_enter Try.func21, Try.ntmps21)
  go_wp2_with fail
  refine (gives_b hw (iWatches_any A n c L B P.length d P _ (HL.out.ext (by repeat (first | exact Ext.refl _ | refine Ext.alloc ?_ _ | assumption | refine Ext.over ?_ _ | refine Ext.drew ?_ | refine Ext.drewN ?_ _))) hn hx (HR.out.ext (by repeat (first | exact Ext.refl _ | refine Ext.alloc ?_ _ | assumption | refine Ext.over ?_ _ | refine Ext.drew ?_ | refine Ext.drewN ?_ _))) rfl hy)).mono ?_
  rintro _ w1 ⟨rfl, e1⟩
  have b0 : w1.cell? ⟨w.heap.size, 0, none⟩ = some (.slice A n c) := old_cell e1 (by go_simp)
  have E1 := hid (Ext.trans (show Ext w _ by repeat (first | exact Ext.refl _ | refine Ext.alloc ?_ _ | assumption | refine Ext.over ?_ _ | refine Ext.drew ?_ | refine Ext.drewN ?_ _)) e1)
  clear e1
  go_wp2_with fail
  refine (floor_any A n c L _ (HL.out.ext E1.out) hn hro).mono ?_
  rintro _ w2 ⟨D, q, c1, rfl, ho, he⟩
  have hq := own_len2 ho
  have b0 := old_cell he b0
  have H1 := hid (E1.out.trans he)
  have HD := hid (Row.of_own ho)
  have HGF := hid (fun j => (show gapF L P j = gapZ (idxs (seenF L P (at2 (floorL L) j)) P.length) P.length from rfl))
  generalize w.heap.size = gr at b0 ⊢
  generalize hF : floorL L = F at *
  generalize hgf : gapF L P = gf at *
  subst hq
  clear ho he hro hw hpo
  go_wp2_with fail
  go_loopw [5, 15] (fun mv kv wr => ∃ (k : Nat), k ≤ F.length ∧ kv = .int .i64 ↑k ∧ mv = .int .i64 (maxF gf k) ∧ Ext w2 wr) (fun _ kv _ => F.length - (intOf kv).toNat)
  case atStart => exact ⟨0, by omega, rfl, rfl, Ext.refl _⟩
  case round =>
    obtain ⟨k, hk, rfl, rfl, he⟩ := hrel
    have HE := hid he
    have HX := hid (H1.out.trans he)
    have r0 := old_cell he b0
    clear he
    by_cases hlt : k < F.length
    · obtain ⟨blk, off, hB, hc⟩ := (HD.out.ext HE.out).t2 hlt
      obtain ⟨c1, c2⟩ := hc k hlt
      have HM := hid (HS.out (at2 F k) (HFO.out k hlt))
      have HGK := hid (HGF.out k)
      have hg := HG.out k
      have hmx := HMX.out k
      have HST := hid (show maxF gf (k + 1) = max (maxF gf k) (gf k) from rfl)
      have HB2 := hid (HB.out (seenF L P (at2 F k)))
      have hln := HLN.out (seenF L P (at2 F k))
      subst hB
      clear hc
      generalize maxF gf k = mx at hmx HST ⊢
      generalize gf k = g at hg HST HGK
      generalize at2 F k = p at c1 c2 HM HGK HB2 hln
      go_wp2_with fail
      refine (HM.out _ (HL.out.ext (HX.out.trans (by repeat (first | exact Ext.refl _ | refine Ext.alloc ?_ _ | assumption | refine Ext.over ?_ _ | refine Ext.drew ?_ | refine Ext.drewN ?_ _)))) (HR.out.ext (HX.out.trans (by repeat (first | exact Ext.refl _ | refine Ext.alloc ?_ _ | assumption | refine Ext.over ?_ _ | refine Ext.drew ?_ | refine Ext.drewN ?_ _))))).mono ?_
      rintro _ w3 ⟨A3, m3, c3, rfl, ho, he⟩
      have hm3 := own_len1S ho
      have HE3 := hid (HE.out.trans (Ext.trans (by repeat (first | exact Ext.refl _ | refine Ext.alloc ?_ _ | assumption | refine Ext.over ?_ _ | refine Ext.drew ?_ | refine Ext.drewN ?_ _)) he))
      have HO3 := hid (Row.of_own ho)
      generalize idxs (seenF L P p) P.length = l at *
      subst hm3
      clear ho he
      go_wp2_with (go_at_call 47; refine (gives_v HGK.out.symm (gapOf_any A3 l.length c3 l P.length _ (HO3.out.ext (by repeat (first | exact Ext.refl _ | refine Ext.alloc ?_ _ | assumption | refine Ext.over ?_ _ | refine Ext.drew ?_ | refine Ext.drewN ?_ _))) rfl (by omega) HB2.out HZ.out)).over.mono ?_; rintro e w' ⟨rfl, xw, rfl⟩)
      go_roundw
      case rel => exact ⟨k + 1, by omega, by go_num, by rw [HST.out]; congr 1; first | omega | (split <;> omega), HE3.out.trans (by repeat (first | exact Ext.refl _ | refine Ext.alloc ?_ _ | assumption | refine Ext.over ?_ _ | refine Ext.drew ?_ | refine Ext.drewN ?_ _))⟩
      case measure => simp [intOf]; omega
    · obtain rfl : k = F.length := by omega
      go_wp2_with fail
      go_ret
      exact ⟨by rw [HV.out]; rfl, HX.out⟩
theorem worst_no {L P : List T2} {j : Nat} (hj : j < (floorL L).length) (h : gapF L P j < 0) : worstR L P = -1 := by
  unfold worstR watchR floorSeen
  rw [allN_false hj (by rw [seen_gap, decide_eq_false (by omega)]), Bool.and_false]
  rfl
theorem floor_ne {L : List T2} (hr : roomS L = true) : 0 < (floorL L).length := List.length_pos_of_mem (corner_floor hr (k := 0) (by have := (roomP_of hr).lo; omega))
theorem worst_pos (L P : List T2) : watchR L P = decide (0 < worstR L P) := by
  unfold worstR
  cases h : watchR L P
  · rw [if_neg (by simp)]; rfl
  · rw [if_pos rfl]
    unfold watchR at h
    simp only [Bool.and_eq_true] at h
    have h0 := floor_ne (patrol_room h.1)
    have h1 := allN_iff.1 h.2 0 h0
    rw [seen_gap, decide_eq_true_iff] at h1
    have h2 := maxF_ge (f := gapF L P) _ 0 h0
    have h3 : (idxs (seenF L P (at2 (floorL L) 0)) P.length).length ≠ 0 := fun e => by have := gap_neg.1 e; unfold gapF at h1; omega
    have h4 := gap_pos h3
    have h5 : gapF L P 0 = gapZ (idxs (seenF L P (at2 (floorL L) 0)) P.length) P.length := rfl
    rw [decide_eq_true (by omega)]
end Go.Proofs.Ytkifapcegiajiaa
/- Plain law of FnPatrols: walks along corners are patrols; gaps do not change when a patrol begins elsewhere. Conditions: a valid room. -/
namespace Go.Proofs.Ytkifapcegiajiaa
open Go.RowKit
set_option linter.unusedVariables false

theorem patrol_iff {L P : List T2} : patrolR L P = true ↔ (1 ≤ P.length ∧ P.length ≤ 40) ∧ roomS L = true ∧ (∀ k, k < P.length → pokT (at2 P k) = true ∧ ¬ placeI L (at2 P k) = 0) ∧ (∀ k, k + 1 < P.length → seesS L (at2 P k) (at2 P (k + 1)) = true) ∧ seesS L (at2 P 0) (at2 P (P.length - 1)) = true := by
  constructor
  · intro h
    have h1 := patrol_len h
    have h2 := patrol_in h
    refine ⟨h1, allIn_room h2, fun k hk => allIn_at h2 hk, ?_, ?_⟩
    · unfold patrolR walkR at h
      simp only [Bool.and_eq_true] at h
      have h3 := allN_iff.1 h.2.1.2.2
      exact fun k hk => h3 k (by omega)
    · unfold patrolR at h
      simp only [Bool.and_eq_true] at h
      exact h.2.2
  · rintro ⟨h1, h2, h3, h4, h5⟩
    unfold patrolR walkR allIn insI
    simp only [Bool.and_eq_true]
    refine ⟨btw_iff.2 (by omega), ⟨decide_eq_true h1.2, ⟨allN_iff.2 fun k hk => ?_, h2⟩, allN_iff.2 fun k hk => h4 k (by omega)⟩, h5⟩
    obtain ⟨a, b⟩ := h3 k hk
    unfold pokAt
    rw [a, beq_eq_false_iff_ne.2 b]; rfl
/-- A walk along corners. -/
structure WK (L P : List T2) : Prop where
  ne : 0 < P.length
  cor : ∀ x ∈ P, x ∈ L
  see : ∀ i, i + 1 < P.length → seesS L (at2 P i) (at2 P (i + 1)) = true
def lastP (P : List T2) : T2 := at2 P (P.length - 1)
theorem lastP_snoc (P : List T2) (x : T2) : lastP (P ++ [x]) = x := by
  unfold lastP
  rw [List.length_append, show P.length + [x].length - 1 = P.length by simp]
  exact at2_last P x
section
variable {L P : List T2}
theorem WK.snoc (h : WK L P) {x : T2} (hs : seesS L (lastP P) x = true) (hx : x ∈ L) : WK L (P ++ [x]) := by
  have hn := h.ne
  refine ⟨by simp, fun y hy => ?_, fun i hi => ?_⟩
  · rcases List.mem_append.1 hy with hy | hy
    · exact h.cor y hy
    · rw [show y = x by simpa using hy]; exact hx
  · simp only [List.length_append, List.length_cons, List.length_nil] at hi
    rcases Nat.lt_or_ge (i + 1) P.length with h1 | h1
    · rw [at2_app (by omega), at2_app h1]; exact h.see i h1
    · have e : i + 1 = P.length := by omega
      rw [e, at2_last, at2_app (by omega)]
      unfold lastP at hs
      rw [show i = P.length - 1 by omega]; exact hs
theorem WK.way {q : T2} : ∀ (r : List T2) {P : List T2}, WK L P → Chain L (lastP P) r q → (∀ x ∈ r, x ∈ L) → WK L (P ++ r) ∧ seesS L (lastP (P ++ r)) q = true
  | [], P, h, hc, _ => by rw [List.append_nil]; exact ⟨h, hc⟩
  | x :: r, P, h, hc, hr => by
    have h1 := h.snoc hc.1 (hr x (by simp))
    have := WK.way r h1 (by rw [lastP_snoc]; exact hc.2) (fun y hy => hr y (by simp [hy]))
    rwa [List.append_assoc, List.singleton_append] at this
theorem WK.patrol (hro : roomS L = true) (h : WK L P) (h40 : P.length ≤ 40) (hs : seesS L (lastP P) (at2 P 0) = true) : patrolR L P = true := by
  have hr := roomP_of hro
  have hne := h.ne
  have hc : ∀ k, k < P.length → ∃ i, i < L.length ∧ at2 L i = at2 P k := fun k hk => mem_at2 (h.cor _ (at2_mem hk))
  refine patrol_iff.2 ⟨⟨hne, h40⟩, hro, fun k hk => ?_, h.see, ?_⟩
  · obtain ⟨i, hi, e⟩ := hc k hk
    rw [← e]
    exact ⟨hr.pok i hi, by rw [place_corner hr hi]; omega⟩
  · obtain ⟨i, hi, e⟩ := hc 0 hne
    obtain ⟨j, hj, e'⟩ := hc (P.length - 1) (by omega)
    unfold lastP at hs
    rw [← e, ← e'] at hs ⊢
    rw [seesS_symm hr (hr.small i hi) (hr.small j hj)]; exact hs
end
/-! ### Gaps -/
def GE (l : List Int) (z v : Int) : Prop := v = atI l 0 + z - atI l (l.length - 1) ∨ ∃ k, k + 1 < l.length ∧ v = atI l (k + 1) - atI l k
theorem gapN_E {l : List Int} {z : Int} : ∀ k, k < l.length → GE l z (gapN l z k) ∧ (atI l 0 + z - atI l (l.length - 1) ≤ gapN l z k) ∧ ∀ j, j + 1 ≤ k → atI l (j + 1) - atI l j ≤ gapN l z k
  | 0, _ => ⟨.inl rfl, Int.le_refl _, fun j hj => by omega⟩
  | k + 1, hk => by
    obtain ⟨h1, h2, h3⟩ := gapN_E (l := l) (z := z) k (by omega)
    simp only [gapN]
    refine ⟨?_, by omega, fun j hj => ?_⟩
    · rcases Int.le_total (gapN l z k) (atI l (k + 1) - atI l k) with h | h
      · rw [Int.max_eq_right h]; exact .inr ⟨k, hk, rfl⟩
      · rw [Int.max_eq_left h]; exact h1
    · rcases Nat.lt_or_ge j k with h | h
      · have := h3 j (by omega); omega
      · obtain rfl : j = k := by omega
        omega
theorem gap_E {l : List Int} {z : Int} (hl : 0 < l.length) : GE l z (gapZ l z) ∧ ∀ v, GE l z v → v ≤ gapZ l z := by
  have e : gapZ l z = gapN l z (l.length - 1) := by unfold gapZ; rw [if_neg (by omega)]
  obtain ⟨h1, h2, h3⟩ := gapN_E (l := l) (z := z) (l.length - 1) (by omega)
  rw [e]
  refine ⟨h1, fun v hv => ?_⟩
  rcases hv with rfl | ⟨k, hk, rfl⟩
  · exact h2
  · exact h3 k (by omega)
theorem gap_same {l l' : List Int} {z : Int} (hl : 0 < l.length) (hl' : 0 < l'.length) (h : ∀ v, GE l z v → GE l' z v) (h' : ∀ v, GE l' z v → GE l z v) : gapZ l z = gapZ l' z := by
  have h1 := gap_E (z := z) hl
  have h2 := gap_E (z := z) hl'
  have h3 := h2.2 _ (h _ h1.1)
  have h4 := h1.2 _ (h' _ h2.1)
  omega
theorem atI_map1 {l : List Int} {k : Nat} (h : k < l.length) : atI (l.map fun x => x + 1) k = atI l k + 1 := by
  rw [atI_eq _ _ (by simpa using h), atI_eq _ _ h]; simp
theorem atI_cons {l : List Int} {x : Int} {k : Nat} : atI (x :: l) (k + 1) = atI l k := by simp [atI]
theorem atI_appL {l : List Int} {y : Int} {k : Nat} (h : k < l.length) : atI (l ++ [y]) k = atI l k := by
  rw [atI_eq _ _ (by rw [List.length_append]; omega), atI_eq _ _ h, List.getElem_append_left h]
theorem atI_appR {l : List Int} {y : Int} : atI (l ++ [y]) l.length = y := by
  rw [atI_eq _ _ (by simp), List.getElem_append_right (Nat.le_refl _)]; simp
theorem idxs_congr {f g : Nat → Bool} : ∀ {n : Nat}, (∀ i, i < n → f i = g i) → idxs f n = idxs g n
  | 0, _ => rfl
  | n + 1, h => by
    have ih := idxs_congr (f := f) (g := g) (n := n) (fun i hi => h i (by omega))
    have hn := h n (by omega)
    cases hg : g n
    · rw [hg] at hn; rw [idxs_no hn, idxs_no hg, ih]
    · rw [hg] at hn; rw [idxs_yes hn, idxs_yes hg, ih]
theorem idxs_shift (f : Nat → Bool) : ∀ m, idxs f (m + 1) = (if f 0 = true then [0] else []) ++ (idxs (fun i => f (i + 1)) m).map fun x => x + 1
  | 0 => by
    cases h : f 0
    · rw [idxs_no h]; rfl
    · rw [idxs_yes h]; rfl
  | m + 1 => by
    have ih := idxs_shift f m
    cases h : f (m + 1)
    · rw [idxs_no h, idxs_no (p := fun i => f (i + 1)) h, ih]
    · rw [idxs_yes h, idxs_yes (p := fun i => f (i + 1)) h, ih, List.map_append, List.append_assoc]; simp
theorem idxs_sortedP (q : Nat → Bool) : ∀ n, (idxs q n).Pairwise (· < ·)
  | 0 => by simp [idxs]
  | n + 1 => by
    cases h : q n
    · rw [idxs_no h]; exact idxs_sortedP q n
    · rw [idxs_yes h, List.pairwise_append]
      refine ⟨idxs_sortedP q n, by simp, fun x hx y hy => ?_⟩
      obtain ⟨j, rfl, hj, _⟩ := idxs_mem.1 hx
      obtain rfl : y = n := by simpa using hy
      omega
theorem gap_n {q : Nat → Bool} {n : Nat} : gapZ (idxs q n) n ≤ n := by
  rcases Nat.eq_zero_or_pos (idxs q n).length with h0 | h0
  · unfold gapZ; rw [if_pos h0]; omega
  · rcases (gap_E (z := (n : Int)) h0).1 with e | ⟨k, hk, e⟩
    · have h1 : atI (idxs q n) 0 ≤ atI (idxs q n) ((idxs q n).length - 1) := by
        rcases Nat.eq_zero_or_pos ((idxs q n).length - 1) with h2 | h2
        · rw [h2]; omega
        · rw [atI_eq _ _ h0, atI_eq _ _ (by omega)]
          have := List.pairwise_iff_getElem.1 (idxs_sortedP q n) 0 ((idxs q n).length - 1) h0 (by omega) h2
          omega
      omega
    · have h1 := idxs_bd (p := q) (n := n) (k := k) (by omega)
      have h2 := idxs_bd (p := q) (n := n) (k := k + 1) hk
      omega
/-- One place on. -/
theorem gap_rot {f f' : Nat → Bool} {m : Nat} (hf : ∀ i, i < m → f' i = f (i + 1)) (hl : f' m = f 0) : gapZ (idxs f' (m + 1)) ((m + 1 : Nat) : Int) = gapZ (idxs f (m + 1)) ((m + 1 : Nat) : Int) := by
  obtain ⟨l, hL⟩ : ∃ l, l = idxs f' m := ⟨_, rfl⟩
  have h1 : idxs f (m + 1) = (if f 0 = true then [0] else []) ++ l.map fun x => x + 1 := by
    rw [idxs_shift, hL, idxs_congr (f := f') (g := fun i => f (i + 1)) hf]
  cases h0 : f 0
  · have h2 : idxs f' (m + 1) = l := by rw [idxs_no (hl.trans h0), hL]
    rw [h0] at h1
    simp only [Bool.false_eq_true, if_false, List.nil_append] at h1
    rw [h1, h2]
    rcases Nat.eq_zero_or_pos l.length with hz | hz
    · rw [List.eq_nil_of_length_eq_zero hz]; rfl
    · refine gap_same hz (by simpa using hz) (fun v hv => ?_) (fun v hv => ?_)
      · rcases hv with rfl | ⟨k, hk, rfl⟩
        · left; rw [List.length_map, atI_map1 hz, atI_map1 (by omega)]; omega
        · right; exact ⟨k, by simpa using hk, by rw [atI_map1 hk, atI_map1 (by omega)]; omega⟩
      · rcases hv with rfl | ⟨k, hk, rfl⟩
        · left; rw [List.length_map, atI_map1 hz, atI_map1 (by omega)]; omega
        · rw [List.length_map] at hk
          right; exact ⟨k, hk, by rw [atI_map1 hk, atI_map1 (by omega)]; omega⟩
  · have h2 : idxs f' (m + 1) = l ++ [(m : Int)] := by rw [idxs_yes (hl.trans h0), hL]
    rw [h0] at h1
    simp only [if_true, List.singleton_append] at h1
    rw [h1, h2]
    have hlen : (l ++ [(m : Int)]).length = l.length + 1 := by simp
    have hlen2 : (0 :: l.map fun x => x + 1).length = l.length + 1 := by simp
    have b0 : atI (0 :: l.map fun x => x + 1) 0 = 0 := rfl
    refine gap_same (by omega) (by omega) (fun v hv => ?_) (fun v hv => ?_)
    · unfold GE at hv ⊢
      rw [hlen] at hv
      rw [hlen2]
      rcases hv with rfl | ⟨k, hk, rfl⟩
      · rw [show l.length + 1 - 1 = l.length by omega, atI_appR]
        rcases Nat.eq_zero_or_pos l.length with hz | hz
        · left
          rw [List.eq_nil_of_length_eq_zero hz]
          show (m : Int) + ((m + 1 : Nat) : Int) - m = 0 + ((m + 1 : Nat) : Int) - 0
          omega
        · right
          refine ⟨0, by omega, ?_⟩
          rw [b0, atI_cons, atI_map1 hz, atI_appL hz]; omega
      · rcases Nat.lt_or_ge (k + 1) l.length with h3 | h3
        · right
          refine ⟨k + 1, by omega, ?_⟩
          rw [atI_cons, atI_cons, atI_map1 h3, atI_map1 (by omega), atI_appL h3, atI_appL (by omega)]; omega
        · left
          have e : k + 1 = l.length := by omega
          rw [e, atI_appR, atI_appL (by omega), b0, show l.length + 1 - 1 = k + 1 by omega, atI_cons, atI_map1 (by omega)]
          omega
    · unfold GE at hv ⊢
      rw [hlen2] at hv
      rw [hlen]
      rcases hv with rfl | ⟨k, hk, rfl⟩
      · rcases Nat.eq_zero_or_pos l.length with hz | hz
        · left
          rw [List.eq_nil_of_length_eq_zero hz]
          show 0 + ((m + 1 : Nat) : Int) - 0 = (m : Int) + ((m + 1 : Nat) : Int) - m
          omega
        · right
          refine ⟨l.length - 1, by omega, ?_⟩
          rw [show l.length - 1 + 1 = l.length by omega, atI_appR, atI_appL (by omega), b0]
          have e : l.length + 1 - 1 = (l.length - 1) + 1 := by omega
          rw [e, atI_cons, atI_map1 (by omega)]; omega
      · cases k with
        | zero =>
          left
          rw [b0, atI_cons, show l.length + 1 - 1 = l.length by omega, atI_appR, atI_appL (by omega), atI_map1 (by omega)]; omega
        | succ k =>
          right
          refine ⟨k, by omega, ?_⟩
          rw [atI_cons, atI_cons, atI_map1 (by omega), atI_map1 (by omega), atI_appL (by omega), atI_appL (by omega)]; omega
/-! ### Another beginning -/
theorem at2_cons {R : List T2} {x : T2} {i : Nat} : at2 (x :: R) (i + 1) = at2 R i := by simp [at2]
/-- What a patrol has in common with one that begins elsewhere. -/
def Like (L P Q : List T2) : Prop := patrolR L Q = true ∧ Q.length = P.length ∧ ∀ y, gapZ (idxs (seenF L Q y) Q.length) Q.length = gapZ (idxs (seenF L P y) P.length) P.length
theorem like_one {L R : List T2} {x : T2} (h : patrolR L (x :: R) = true) : Like L (x :: R) (R ++ [x]) := by
  obtain ⟨h1, h2, h3, h4, h5⟩ := patrol_iff.1 h
  have hr := roomP_of h2
  simp only [List.length_cons] at h1 h3 h4 h5
  have hlen : (R ++ [x]).length = R.length + 1 := by simp
  have hat : ∀ i, i < R.length → at2 (R ++ [x]) i = at2 (x :: R) (i + 1) := fun i hi => by rw [at2_app hi, at2_cons]
  have hl : at2 (R ++ [x]) R.length = at2 (x :: R) 0 := at2_last R x
  have hsm : ∀ k, k < R.length + 1 → small (at2 (x :: R) k) := fun k hk => small_pok (h3 k hk).1
  refine ⟨patrol_iff.2 ⟨by omega, h2, fun k hk => ?_, fun k hk => ?_, ?_⟩, by simp, fun y => ?_⟩
  · rw [hlen] at hk
    rcases Nat.lt_or_ge k R.length with hk' | hk'
    · rw [hat k hk']; exact h3 (k + 1) (by omega)
    · rw [show k = R.length by omega, hl]; exact h3 0 (by omega)
  · rw [hlen] at hk
    rcases Nat.lt_or_ge (k + 1) R.length with hk' | hk'
    · rw [hat k (by omega), hat (k + 1) hk']; exact h4 (k + 1) (by omega)
    · have e : k + 1 = R.length := by omega
      rw [hat k (by omega), e, hl, seesS_symm hr (hsm _ (by omega)) (hsm 0 (by omega))]
      exact h5
  · rw [hlen, show R.length + 1 - 1 = R.length by omega, hl]
    rcases Nat.eq_zero_or_pos R.length with hz | hz
    · have e : at2 (R ++ [x]) 0 = at2 (x :: R) 0 := by have h6 := hl; rw [hz] at h6; exact h6
      rw [e]
      rw [hz] at h5
      exact h5
    · rw [hat 0 hz, seesS_symm hr (hsm 1 (by omega)) (hsm 0 (by omega))]
      exact h4 0 (by omega)
  · rw [hlen, List.length_cons]
    refine gap_rot (fun i hi => ?_) ?_
    · unfold seenF; rw [hat i hi]
    · unfold seenF; rw [hl]
theorem Like.trans {L P Q S : List T2} (h : Like L P Q) (k : Like L Q S) : Like L P S := ⟨k.1, k.2.1.trans h.2.1, fun y => (k.2.2 y).trans (h.2.2 y)⟩
theorem like_rot {L : List T2} : ∀ (k : Nat) (P : List T2), k ≤ P.length → patrolR L P = true → Like L P (P.drop k ++ P.take k)
  | 0, P, _, h => by simpa using ⟨h, rfl, fun y => rfl⟩
  | k + 1, [], hk, h => by simp at hk
  | k + 1, x :: R, hk, h => by
    have h1 := like_one h
    simp only [List.length_cons] at hk
    have h2 := like_rot k (R ++ [x]) (by simp; omega) h1.1
    have e : (R ++ [x]).drop k ++ (R ++ [x]).take k = (x :: R).drop (k + 1) ++ (x :: R).take (k + 1) := by
      rw [List.drop_append_of_le_length (by omega), List.take_append_of_le_length (by omega)]
      simp
    rw [e] at h2
    exact h1.trans h2
theorem like_gapF {L P Q : List T2} (h : Like L P Q) (j : Nat) : gapF L Q j = gapF L P j := h.2.2 _
theorem like_worst {L P Q : List T2} (hp : patrolR L P = true) (h : Like L P Q) : worstR L Q = worstR L P := by
  have hf : floorSeen L Q = floorSeen L P := by
    unfold floorSeen
    rw [Bool.eq_iff_iff, allN_iff, allN_iff]
    constructor
    · intro h1 j hj; have := h1 j hj; rw [seen_gap, like_gapF h] at this; rw [seen_gap]; exact this
    · intro h1 j hj; have := h1 j hj; rw [seen_gap] at this; rw [seen_gap, like_gapF h]; exact this
  have hg : gapF L Q = gapF L P := funext fun j => like_gapF h j
  unfold worstR watchR
  rw [hp, h.1, hf, hg]
theorem like_gapR {L P Q : List T2} (hp : patrolR L P = true) (h : Like L P Q) (y : T2) : gapR L Q y = gapR L P y := by
  unfold gapR seenL
  rw [hp, h.1]
  cases isIn L y
  · simp only [Bool.and_false]; rfl
  · exact h.2.2 y
/-- What the law says of a patrol, a point of the floor, its gap and the worst gap. -/
theorem law_gap {L P : List T2} (hp : patrolR L P = true) {j : Nat} (hj : j < (floorL L).length) : worstR L P < 0 ∨ (1 ≤ gapR L P (at2 (floorL L) j) ∧ gapR L P (at2 (floorL L) j) ≤ worstR L P ∧ worstR L P ≤ P.length) := by
  have hro := patrol_room hp
  have hin : isIn L (at2 (floorL L) j) = true := by
    have h1 := floor_at hro hj
    rw [isIn_val, hro, h1.1]
    simpa using h1.2
  have hg : gapR L P (at2 (floorL L) j) = gapF L P j := by
    unfold gapR seenL gapF
    rw [hp, hin]; rfl
  cases hw : watchR L P
  · left; unfold worstR; rw [hw]; simp
  · right
    have hw' := hw
    unfold watchR at hw
    simp only [Bool.and_eq_true] at hw
    have h1 := allN_iff.1 hw.2 j hj
    rw [seen_gap, decide_eq_true_iff] at h1
    have h2 : (idxs (seenF L P (at2 (floorL L) j)) P.length).length ≠ 0 := fun e => by have := gap_neg.1 e; unfold gapF at h1; omega
    have h3 := gap_pos h2
    have h4 := maxF_ge (f := gapF L P) _ j hj
    have h5 := maxF_bd (f := gapF L P) (M := P.length) (by omega) (floorL L).length (fun i _ => gap_n)
    have h6 : worstR L P = maxF (gapF L P) (floorL L).length := by unfold worstR; rw [hw']; rfl
    have h7 : gapF L P j = gapZ (idxs (seenF L P (at2 (floorL L) j)) P.length) P.length := rfl
    omega
theorem law_seen {L P : List T2} (y : T2) : gapR L P y < 0 ↔ (seenL L P y).length = 0 := by
  unfold gapR seenL
  split
  · exact gap_neg.symm
  · simp [gapZ]
end Go.Proofs.Ytkifapcegiajiaa
/- Walks: the program's number of pieces between two points, and sight between points of the floor. Conditions: sizes. -/
namespace Go.Proofs.Ytkifapcegiajiaa
open Go.RowKit
set_option linter.unusedVariables false

def pcs (L : List T2) (p q : T2) : Int := if (isIn L p && isIn L q) = true then bestS L q p else -1
set_option maxHeartbeats 1600000 in
set_option maxRecDepth 100000 in
theorem pieces_any (A : Option Addr) (n c : Nat) (L : List T2) (p q : T2) (w : World) (hl : Row w A (L.flatMap T2.v)) (hn : L.length = n) (hx : n ≤ 1048577) :
    Gives Try.prog 27 #[.agg #[.slice A n c], ptV p, ptV q] w (.int .i64 (pcs L p q)) := by
  have HIN := hid (fun B d w' (h : Row w' A (L.flatMap T2.v)) (hr : Row w' B ([p, q].flatMap T2.v)) => allIn_any A n c L B 2 d [p, q] w' h hn hx hr rfl (by omega))
  rw [allIn_two] at HIN
  have HL := hid hl
  clear hl
  have HROW := hid (two_rowP (((w.alloc (.cells #[.slice A n c] 33)).alloc (.cells #[.int .i64 p.a, .int .i64 p.b] 35)).alloc (.cells #[.int .i64 q.a, .int .i64 q.b] 35)) (w.heap.size + 1 + 1 + 1) (by simp) p.a p.b q.a q.b 35)
  cases hip : (isIn L p && isIn L q)
  · rw [show pcs L p q = -1 by unfold pcs; rw [hip]; rfl]
    unfold ptV at *
    (unfold Gives; go_enter Try.func27, Try.ntmps27)
    go_wp2_with (go_at_call 37; refine (gives_b hip (HIN.out _ 2 _ (HL.out.ext (by repeat (first | exact Ext.refl _ | refine Ext.alloc ?_ _ | assumption | refine Ext.over ?_ _ | refine Ext.drew ?_ | refine Ext.drewN ?_ _))) HROW.out)).over.mono ?_; rintro e w' ⟨rfl, xw, rfl⟩)
    go_ret
    exact ⟨rfl, by repeat (first | exact Ext.refl _ | refine Ext.alloc ?_ _ | assumption | refine Ext.over ?_ _ | refine Ext.drew ?_ | refine Ext.drewN ?_ _)⟩
  have hpq := (Bool.and_eq_true _ _).mp hip
  have hro := (isIn_room hpq.1).1
  have hpp := (isIn_room hpq.1).2
  have hqq := (isIn_room hpq.2).2
  have HPI := hid (fun w' (h : Row w' A (L.flatMap T2.v)) => piecesTo_any A n c L p q w' h hn hro hpp hqq)
  have hb := bestS_bound L q p
  obtain ⟨N, hN⟩ : ∃ N, N = bestS L q p := ⟨_, rfl⟩
  rw [show pcs L p q = N by unfold pcs; rw [hip, hN]; rfl]
  have HD := hid (show distF L (L ++ [p]) q n = N by rw [← hn, dist_p, hN])
  rw [← hN] at hb
  unfold ptV at *
  clear hpq hro hpp hqq hN
  (unfold Gives; go_enter Try.func27, Try.ntmps27)
  go_wp2_with (go_at_call 37; refine (gives_b hip (HIN.out _ 2 _ (HL.out.ext (by repeat (first | exact Ext.refl _ | refine Ext.alloc ?_ _ | assumption | refine Ext.over ?_ _ | refine Ext.drew ?_ | refine Ext.drewN ?_ _))) HROW.out)).over.mono ?_; rintro e w' ⟨rfl, xw, rfl⟩)
  refine (HPI.out _ (HL.out.ext (by repeat (first | exact Ext.refl _ | refine Ext.alloc ?_ _ | assumption | refine Ext.over ?_ _ | refine Ext.drew ?_ | refine Ext.drewN ?_ _)))).mono ?_
  rintro _ w2 ⟨gd, dd, rfl, ho, he⟩
  have HE := hid (Ext.trans (show Ext w _ by repeat (first | exact Ext.refl _ | refine Ext.alloc ?_ _ | assumption | refine Ext.over ?_ _ | refine Ext.drew ?_ | refine Ext.drewN ?_ _)) he)
  clear ho he
  rw [HD.out]
  go_wp2_with fail
  go_ret
  exact ⟨rfl, HE.out⟩
set_option maxHeartbeats 1600000 in
set_option maxRecDepth 100000 in
theorem iSees_any (A : Option Addr) (n c : Nat) (L : List T2) (p q : T2) (w : World) (hl : Row w A (L.flatMap T2.v)) (hn : L.length = n) (hx : n ≤ 1048577) (hip : (isIn L p && isIn L q) = true) :
    Gives Try.prog 31 #[.agg #[.slice A n c], ptV p, ptV q] w (.bool (seesS L p q)) := by
  have HIN := hid (fun B d w' (h : Row w' A (L.flatMap T2.v)) (hr : Row w' B ([p, q].flatMap T2.v)) => allIn_any A n c L B 2 d [p, q] w' h hn hx hr rfl (by omega))
  rw [allIn_two] at HIN
  have HL := hid hl
  clear hl
  have HROW := hid (two_rowP (((w.alloc (.cells #[.slice A n c] 33)).alloc (.cells #[.int .i64 p.a, .int .i64 p.b] 35)).alloc (.cells #[.int .i64 q.a, .int .i64 q.b] 35)) (w.heap.size + 1 + 1 + 1) (by simp) p.a p.b q.a q.b 35)
  have hpq := (Bool.and_eq_true _ _).mp hip
  have hro := (isIn_room hpq.1).1
  have hpp := (isIn_room hpq.1).2
  have hqq := (isIn_room hpq.2).2
  have HSE := hid (fun w' (h : Row w' A (L.flatMap T2.v)) => sees_any A n c L p q w' h hn hro hpp hqq)
  unfold ptV at *
  clear hpq hro hpp hqq
  cases hs : seesS L p q
  all_goals
    (unfold Gives; go_enter Try.func31, Try.ntmps31)
    go_wp2_with (first | (go_at_call 37; refine (gives_b hip (HIN.out _ 2 _ (HL.out.ext (by repeat (first | exact Ext.refl _ | refine Ext.alloc ?_ _ | assumption | refine Ext.over ?_ _ | refine Ext.drew ?_ | refine Ext.drewN ?_ _))) HROW.out)).over.mono ?_; rintro e w' ⟨rfl, xw, rfl⟩) | (go_at_call 39; refine (gives_b hs (HSE.out _ (HL.out.ext (by repeat (first | exact Ext.refl _ | refine Ext.alloc ?_ _ | assumption | refine Ext.over ?_ _ | refine Ext.drew ?_ | refine Ext.drewN ?_ _))))).over.mono ?_; rintro e w' ⟨rfl, xw, rfl⟩))
    go_ret
    exact ⟨rfl, by repeat (first | exact Ext.refl _ | refine Ext.alloc ?_ _ | assumption | refine Ext.over ?_ _ | refine Ext.drew ?_ | refine Ext.drewN ?_ _)⟩
end Go.Proofs.Ytkifapcegiajiaa
/- Walks: the reference's points of corners. Conditions: a valid room, valid corners. -/
namespace Go.Proofs.Ytkifapcegiajiaa
open Go.RowKit
set_option linter.unusedVariables false

def ptsL (L : List T2) (ks : List Nat) : List T2 := ks.map (at2 L)
theorem ptsL_take {L : List T2} {ks : List Nat} {k : Nat} (h : k < ks.length) : ptsL L (ks.take (k + 1)) = ptsL L (ks.take k) ++ [at2 L ks[k]] := by
  unfold ptsL
  rw [List.take_succ_eq_append_getElem h, List.map_append]; rfl
set_option maxHeartbeats 1600000 in
set_option maxRecDepth 100000 in
theorem sPoints_any (A : Option Addr) (n c : Nat) (L : List T2) (B : Option Addr) (m d : Nat) (ks : List Nat) (w : World) (hl : Row w A (L.flatMap T2.v)) (hn : L.length = n) (hro : roomS L = true) (hr : Row w B (vl ks)) (hm : ks.length = m) (hy : m ≤ 40) (hks : ∀ k ∈ ks, k < L.length) :
    Calls Try.prog 73 #[.agg #[.slice A n c], .slice B m d] w fun en w' => ∃ g c', en = .returned (.slice (some ⟨g, 0, none⟩) m c') ∧ w'.ownsRow w.heap.size 35 2 (.slice (some ⟨g, 0, none⟩) m c') m ((ptsL L ks).flatMap T2.v) ∧ Ext w w' := by
  subst hn hm
  have hn10 : L.length ≤ 10 := (roomP_of hro).hi
  obtain ⟨w0, hw0⟩ : ∃ w0, w0 = w.alloc (.cells #[.slice A L.length c] 33) := ⟨_, rfl⟩
  have e0 : Ext w w0 := by rw [hw0]; repeat (first | exact Ext.refl _ | refine Ext.alloc ?_ _ | assumption | refine Ext.over ?_ _ | refine Ext.drew ?_ | refine Ext.drewN ?_ _)
  have r0 := (show w0.cell? ⟨w.heap.size, 0, none⟩ = some (.slice A L.length c) by rw [hw0]; go_simp)
  have hs0 : w0.heap.size = w.heap.size + 1 := by rw [hw0]; simp
  have HS0 := hid hs0
  have HR0 := hid r0
  have HE0 := hid e0
  have HL := hid (hl.ext e0)
  have HK := hid (hr.ext e0)
  have HRO := hid (fun w' (e : Ext w0 w') => gives_b hro (sRoomOk_any A L.length c L w' (HL.out.ext e) rfl (by omega)))
  have HKS := hid hks
  clear hl hr hks r0 e0 hs0
  go_enter Try.func73, Try.ntmps73
  go_wp2_with fail
  rw [← hw0]
  clear hw0
  have hbs : w.heap.size < w0.heap.size := by have := HS0.out; omega
  rw [← HS0.out]
  go_loopw [5, 6] (fun ov kv wr => ∃ (k g c' : Nat), k ≤ ks.length ∧ kv = .int .i64 ↑k ∧ ov = .slice (some ⟨g, 0, none⟩) k c' ∧ wr.ownsRow w0.heap.size 35 2 (.slice (some ⟨g, 0, none⟩) k c') k ((ptsL L (ks.take k)).flatMap T2.v) ∧ Ext w0 wr) (fun _ kv _ => ks.length - (intOf kv).toNat)
  case atStart => exact ⟨0, _, _, by omega, rfl, rfl, own_empty w0 _ _ rfl (Nat.le_refl _) _ _, by repeat (first | exact Ext.refl _ | refine Ext.alloc ?_ _ | assumption | refine Ext.over ?_ _ | refine Ext.drew ?_ | refine Ext.drewN ?_ _)⟩
  case round =>
    obtain ⟨k, go, c', hkl, rfl, rfl, hown, he⟩ := hrel
    have HO := hid hown
    have HE := hid he
    clear hown he
    by_cases hlt : k < ks.length
    · have hkt : (k : Int) < ks.length := by omega
      obtain ⟨kv, hkv⟩ : ∃ kv, kv = ks[k] := ⟨_, rfl⟩
      have hkn : kv < L.length := by rw [hkv]; exact HKS.out _ (List.getElem_mem hlt)
      have hknt : (kv : Int) < L.length := by omega
      have HT := hid (show ptsL L (ks.take (k + 1)) = ptsL L (ks.take k) ++ [at2 L kv] by rw [hkv]; exact ptsL_take hlt)
      obtain ⟨b1, o1, hB, hcB⟩ := (HK.out.ext HE.out).at_ (j := k) (by rw [vl_len]; exact hlt)
      have y0 := hcB k (.int .i64 (kv : Int)) (by unfold vl; rw [List.getElem?_map, List.getElem?_eq_getElem hlt, hkv]; rfl)
      obtain ⟨b2, o2, hA, hcA⟩ := (HL.out.ext HE.out).t2 hkn
      obtain ⟨z0, z1⟩ := hcA kv hkn
      have r0 := old_cell HE.out HR0.out
      have hin : btw (kv : Int) 0 ((L.length : Int) - 1) = true := btw_iff.2 (by omega)
      subst hB hA
      clear hcA hcB hkv
      go_wp2_with fail
      have hw1 : IntKind.i64.wrap ((L.length : Int) - 1) = (L.length : Int) - 1 := IntWalk.i64_in _ (by omega)
      (refine wp_region_calm (by kernel_rfl) (by kernel_rfl) ?_; (repeat (go_big_quiet_step ((first | (go_at_call 74; exact (gives_b hin (l01In_any _ _ _ _)).calm) | (go_at_call 45; exact (HRO.out _ (HE.out.trans (by repeat (first | exact Ext.refl _ | refine Ext.alloc ?_ _ | assumption | refine Ext.over ?_ _ | refine Ext.drew ?_ | refine Ext.drewN ?_ _)))).calm))))); refine wpQuiet_nil ?_; rintro w1 ⟨x1, rfl⟩)
      have HE1 := hid (HE.out.trans (show Ext wr (ovr wr x1) by repeat (first | exact Ext.refl _ | refine Ext.alloc ?_ _ | assumption | refine Ext.over ?_ _ | refine Ext.drew ?_ | refine Ext.drewN ?_ _)))
      have HO1 := hid (own_ext HO.out (show Ext wr (ovr wr x1) by repeat (first | exact Ext.refl _ | refine Ext.alloc ?_ _ | assumption | refine Ext.over ?_ _ | refine Ext.drew ?_ | refine Ext.drewN ?_ _)))
      have y0 := old_cell (show Ext wr (ovr wr x1) by repeat (first | exact Ext.refl _ | refine Ext.alloc ?_ _ | assumption | refine Ext.over ?_ _ | refine Ext.drew ?_ | refine Ext.drewN ?_ _)) y0
      have z0 := old_cell (show Ext wr (ovr wr x1) by repeat (first | exact Ext.refl _ | refine Ext.alloc ?_ _ | assumption | refine Ext.over ?_ _ | refine Ext.drew ?_ | refine Ext.drewN ?_ _)) z0
      have z1 := old_cell (show Ext wr (ovr wr x1) by repeat (first | exact Ext.refl _ | refine Ext.alloc ?_ _ | assumption | refine Ext.over ?_ _ | refine Ext.drew ?_ | refine Ext.drewN ?_ _)) z1
      have r0 := old_cell (show Ext wr (ovr wr x1) by repeat (first | exact Ext.refl _ | refine Ext.alloc ?_ _ | assumption | refine Ext.over ?_ _ | refine Ext.drew ?_ | refine Ext.drewN ?_ _)) r0
      generalize ovr wr x1 = wu at HE1 HO1 y0 z0 z1 r0 ⊢
      have hg1 := HO1.out.lt go rfl
      have hb1 : ¬ b1 = go := by
        obtain ⟨b', off', e, hc'⟩ := HK.out.at_ (j := k) (by rw [vl_len]; exact hlt)
        cases e
        have := World.block_lt_of_cell? w0 _ (hc' k _ (by unfold vl; rw [List.getElem?_map, List.getElem?_eq_getElem hlt]; rfl))
        show ¬ b1 = go
        have h2 : b1 < w0.heap.size := this
        omega
      have hb2 : ¬ b2 = go := by
        obtain ⟨b', off', e, hc'⟩ := HL.out.t2 hkn
        cases e
        have := World.block_lt_of_cell? w0 _ (hc' kv hkn).1
        have h2 : b2 < w0.heap.size := this
        omega
      have hb3 : ¬ w.heap.size = go := by omega
      clear HO HE hin hw1
      go_wp2_with fail
      refine wp_region_r (LaterG go go) (laterG_steady _ _) [.q 0, .q 1, .q 2, .q 3, .q 4, .q 5, .q 6, .q 7, .q 8, .u 9, .u 10, .u 11] (by kernel_rfl) (by kernel_rfl) (fun w1 e1 => ?_)
      have e1' : Ext wu w1 := Ext.trans (by repeat (first | exact Ext.refl _ | refine Ext.alloc ?_ _ | assumption | refine Ext.over ?_ _ | refine Ext.drew ?_ | refine Ext.drewN ?_ _)) e1
      have y0 := old_cell e1' y0
      have z0 := old_cell e1' z0
      have z1 := old_cell e1' z1
      have r0 := old_cell e1' r0
      have E1 := hid e1'
      clear e1 e1'
      simp only [pick, List.getElem?_cons_succ, List.getElem?_cons_zero]
      repeat (refine wpR_q (fun K hK => ?_); go_simp; refine hK _ ?_; clear hK K)
      refine wpR_u ?_
      refine stepH_of (fun K hK => ?_)
      go_simp
      refine hK _ _ (laterG_of (Kept.of_ext (Ext.alloc (Ext.refl _) _))) ?_; clear hK K
      refine wpR_u ?_
      refine stepH_of (fun K hK => ?_)
      rw [if_pos (by rfl)]
      refine her_push w0 (.tmp 30) (.tmp 39) 31 rfl 35 Try.underlying31 info_PointC rfl (by decide) _ k ((ptsL L (ks.take k)).flatMap T2.v) rfl (own_ext HO1.out (E1.out.trans (by repeat (first | exact Ext.refl _ | refine Ext.alloc ?_ _ | assumption | refine Ext.over ?_ _ | refine Ext.drew ?_ | refine Ext.drewN ?_ _)))) ((HE1.out.trans E1.out).trans (by repeat (first | exact Ext.refl _ | refine Ext.alloc ?_ _ | assumption | refine Ext.over ?_ _ | refine Ext.drew ?_ | refine Ext.drewN ?_ _))) _ 1 1 [.int .i64 (at2 L kv).a, .int .i64 (at2 L kv).b] rfl rfl (lit_cells _ _ rfl _ _) (by intro u hu; simp at hu; rcases hu with rfl | rfl <;> rfl) (by omega) (by omega) (by decide) ?_
      intro g2 cap w5 hown5 he5 hg5
      refine hK _ _ (laterG_of (kept_row (g := go) hg5 (fun i hi => by have h : some go = some i := hi; exact (Option.some.inj h).symm))) ?_; clear hK K
      have HO5 := hid (show w5.ownsRow w0.heap.size 35 2 (.slice (some ⟨g2, 0, none⟩) (k + 1) cap) (k + 1) ((ptsL L (ks.take (k + 1))).flatMap T2.v) by rw [HT.out, List.flatMap_append]; exact hown5)
      have HE5 := hid he5
      clear hown5 he5 hg5 y0 z0 z1 r0 HO1 E1 HE1
      ((first | refine wpR_u ?_ | skip); refine stepH_of (fun K hK => ?_); go_simp; refine hK _ _ (laterG_of (Kept.refl _ _ _)) ?_; clear hK K)
      refine wpR_nil ?_
      go_wp2_with fail
      go_roundw
      case rel => exact ⟨k + 1, g2, cap, by omega, by go_num, rfl, own_ext HO5.out (by repeat (first | exact Ext.refl _ | refine Ext.alloc ?_ _ | assumption | refine Ext.over ?_ _ | refine Ext.drew ?_ | refine Ext.drewN ?_ _)), HE5.out.trans (by repeat (first | exact Ext.refl _ | refine Ext.alloc ?_ _ | assumption | refine Ext.over ?_ _ | refine Ext.drew ?_ | refine Ext.drewN ?_ _))⟩
      case measure => simp [intOf]; omega
    · obtain rfl : k = ks.length := by omega
      have HT := hid (show ptsL L (ks.take ks.length) = ptsL L ks by rw [List.take_length])
      go_wp2_with fail
      go_ret
      refine ⟨go, c', rfl, ?_, HE0.out.trans HE.out⟩
      rw [← HT.out]
      exact own_base HO.out (by omega)
end Go.Proofs.Ytkifapcegiajiaa
/- Plain law of FnPieces: numbers of pieces are the same both ways and keep the triangle rule; the way turns one time fewer. Condition: a valid room, points of its floor. -/
namespace Go.Proofs.Ytkifapcegiajiaa
open Go.RowKit
set_option linter.unusedVariables false

section
variable {L : List T2}
/-- A way to c, and one from c. -/
theorem pw_app {q c : T2} {k : Nat} (hc : c ∈ L) (hk : PW L (· ∈ L) q k c) {m : Nat} {x : T2} (h : PW L (· ∈ L) c m x) : ∃ k', k' ≤ m + k ∧ PW L (· ∈ L) q k' x := by
  have stp : ∀ {x y : T2} {j : Nat}, y ∈ L → seesS L x y = true → PW L (· ∈ L) q j y → ∃ k', k' ≤ j + 1 ∧ PW L (· ∈ L) q k' x := fun {x y j} hy hs hj => by
    by_cases e : x = q
    · rw [e]; exact ⟨0, by omega, .nil⟩
    · exact ⟨j + 1, Nat.le_refl _, hj.step hy hs e⟩
  induction h with
  | nil => exact ⟨k, by omega, hk⟩
  | one h1 h2 =>
    obtain ⟨k', h3, h4⟩ := stp hc h1 hk
    exact ⟨k', by omega, h4⟩
  | @more m x y h1 h2 h3 h4 ih =>
    obtain ⟨j, hj, hp⟩ := ih
    obtain ⟨k', h5, h6⟩ := stp h2 h3 hp
    exact ⟨k', by omega, h6⟩
theorem pw_one {x q : T2} (hs : seesS L x q = true) : ∃ k, k ≤ 1 ∧ PW L (· ∈ L) q k x := by
  by_cases e : x = q
  · rw [e]; exact ⟨0, by omega, .nil⟩
  · exact ⟨1, by omega, .one hs e⟩
theorem mem_small (h : roomS L = true) {y : T2} (hy : y ∈ L) : small y := by
  obtain ⟨i, hi, rfl⟩ := mem_at2 hy
  exact (roomP_of h).small i hi
theorem pw_rev (h : roomS L = true) {q : T2} (hq : small q) {m : Nat} {x : T2} (hp : PW L (· ∈ L) q m x) (hx : small x) : ∃ k, k ≤ m ∧ PW L (· ∈ L) x k q := by
  have hr := roomP_of h
  induction hp with
  | nil => exact ⟨0, by omega, .nil⟩
  | @one x h1 h2 => exact pw_one (by rw [seesS_symm hr hq hx]; exact h1)
  | @more m x y h1 h2 h3 h4 ih =>
    have hy := mem_small h h2
    obtain ⟨k, hk, hp⟩ := ih hy
    obtain ⟨j, hj, h5⟩ := pw_one (L := L) (x := y) (q := x) (by rw [seesS_symm hr hy hx]; exact h3)
    obtain ⟨k', h6, h7⟩ := pw_app h2 h5 hp
    exact ⟨k', by omega, h7⟩
theorem floor_corner (h : roomS L = true) {k : Nat} (hk : k < L.length) : onFloor L (at2 L k) :=
  ⟨(roomP_of h).pok k hk, by rw [place_corner (roomP_of h) hk]; omega⟩
theorem small_floor {a : T2} (ha : onFloor L a) : small a := small_pok ha.1
theorem floor_in (h : roomS L = true) {a : T2} (ha : onFloor L a) : isIn L a = true := by
  rw [isIn_val, h, ha.1]
  have := ha.2
  simpa using this
/-- There is a way between points of the floor; round the corners at most two longer than between corners. -/
theorem floor_way (h : roomS L = true) {a b : T2} (ha : onFloor L a) (hb : onFloor L b) {M : Int} (hM : ∀ i v, i < L.length → v < L.length → bestS L (at2 L i) (at2 L v) ≤ M) : ∃ m : Nat, bestS L b a = m ∧ IsD L (· ∈ L) b m a ∧ (m : Int) ≤ M + 2 := by
  have hr := roomP_of h
  obtain ⟨i, hi, hsa⟩ := floor_sees h ha
  obtain ⟨j, hj, hsb⟩ := floor_sees h hb
  obtain ⟨d, hd, h1⟩ := corner_d h hi hj
  obtain ⟨k1, g1, g2⟩ := pw_one (L := L) (x := at2 L j) (q := b) (by rw [seesS_symm hr (hr.small j hj) (small_floor hb)]; exact hsb)
  obtain ⟨k2, g3, g4⟩ := pw_app (at2_mem hj) g2 h1.1
  obtain ⟨k3, g5, g6⟩ := pw_app (at2_mem hi) g4 (pw_one hsa).choose_spec.2
  have g7 := (pw_one hsa).choose_spec.1
  have hdM : (d : Int) ≤ M := by
    have := hM j i hj hi
    rw [((best_spec L (at2 L j) (at2 L i)).iff d).2 h1] at this
    exact this
  rcases best_spec L b a with ⟨m, e, hm⟩ | ⟨_, hn⟩
  · refine ⟨m, e, hm, ?_⟩
    rcases Nat.lt_or_ge k3 m with h2 | h2
    · exact absurd g6 (hm.2 k3 h2)
    · omega
  · exact absurd g6 (hn k3)
theorem le_of_pw {b a : T2} {m k : Nat} (hm : IsD L (· ∈ L) b m a) (hk : PW L (· ∈ L) b k a) : m ≤ k := by
  rcases Nat.lt_or_ge k m with h | h
  · exact absurd hk (hm.2 k h)
  · exact h
theorem link_bound (L : List T2) : ∀ i v, i < L.length → v < L.length → bestS L (at2 L i) (at2 L v) ≤ L.length + 1 := fun i v _ _ => (bestS_bound L _ _).2
theorem best_symm (h : roomS L = true) {a b : T2} (ha : onFloor L a) (hb : onFloor L b) : bestS L a b = bestS L b a := by
  obtain ⟨m, e, hm, _⟩ := floor_way h ha hb (link_bound L)
  obtain ⟨k, e', hk, _⟩ := floor_way h hb ha (link_bound L)
  obtain ⟨m', h1, h2⟩ := pw_rev h (small_floor hb) hm.1 (small_floor ha)
  obtain ⟨k', h3, h4⟩ := pw_rev h (small_floor ha) hk.1 (small_floor hb)
  have := le_of_pw hk h2
  have := le_of_pw hm h4
  rw [e, e']
  omega
theorem best_tri (h : roomS L = true) {a b : T2} (ha : onFloor L a) (hb : onFloor L b) {k : Nat} (hk : k < L.length) : bestS L b a ≤ bestS L (at2 L k) a + bestS L b (at2 L k) := by
  have hc := floor_corner h hk
  obtain ⟨m, e, hm, _⟩ := floor_way h ha hb (link_bound L)
  obtain ⟨m1, e1, h1, _⟩ := floor_way h ha hc (link_bound L)
  obtain ⟨m2, e2, h2, _⟩ := floor_way h hc hb (link_bound L)
  obtain ⟨k', h3, h4⟩ := pw_app (at2_mem hk) h2.1 h1.1
  have := le_of_pw hm h4
  rw [e, e1, e2]
  omega
theorem best_zero (h : roomS L = true) {a b : T2} (ha : onFloor L a) (hb : onFloor L b) : (bestS L b a == 0) = eqP a b := by
  obtain ⟨m, e, hm, _⟩ := floor_way h ha hb (link_bound L)
  rw [e, Bool.eq_iff_iff, beq_iff_eq, eqP_iff]
  constructor
  · intro h0
    obtain rfl : m = 0 := by omega
    exact hm.1.zero
  · intro h0
    have := le_of_pw hm (by rw [h0]; exact .nil)
    omega
theorem best_one (h : roomS L = true) {a b : T2} (ha : onFloor L a) (hb : onFloor L b) : decide (bestS L b a ≤ 1) = seesS L a b := by
  obtain ⟨m, e, hm, _⟩ := floor_way h ha hb (link_bound L)
  rw [e, Bool.eq_iff_iff, decide_eq_true_iff]
  constructor
  · intro h1
    rcases (show m = 0 ∨ m = 1 by omega) with rfl | rfl
    · rw [hm.1.zero]; exact sees_self (roomP_of h) hb.1 hb.2
    · cases hm.1 with
      | one h1 _ => exact h1
  · intro h1
    obtain ⟨k, h2, h3⟩ := pw_one h1
    have := le_of_pw hm h3
    omega
theorem link_pos (h : roomS L = true) {M : Int} (hM : ∀ i v, i < L.length → v < L.length → bestS L (at2 L i) (at2 L v) ≤ M) : 1 ≤ M := by
  have hr := roomP_of h
  have hlo := hr.lo
  have h0 := floor_corner h (k := 0) (by omega)
  have h1 := floor_corner h (k := 1) (by omega)
  obtain ⟨m, e, hm, _⟩ := floor_way h h1 h0 (link_bound L)
  have := hM 0 1 (by omega) (by omega)
  rw [e] at this
  have hne : m ≠ 0 := fun e0 => by
    subst e0
    exact hr.ne 1 0 (by omega) (by omega) (by omega) hm.1.zero
  omega
/-- The walk from a round corners to b. -/
def walkL (L : List T2) (a : T2) (ks : List Nat) (b : T2) : List T2 := [a] ++ ptsL L ks ++ [b]
theorem chain_steps {q : T2} : ∀ (r : List T2) (a : T2), Chain L a r q → ∀ k, k + 1 < (a :: (r ++ [q])).length → seesS L (at2 (a :: (r ++ [q])) k) (at2 (a :: (r ++ [q])) (k + 1)) = true
  | [], a, h, k, hk => by
    obtain rfl : k = 0 := by simp at hk; omega
    exact h
  | x :: r, a, h, 0, hk => h.1
  | x :: r, a, h, k + 1, hk => by
    have ih := chain_steps r x h.2 k (by simp at hk ⊢; omega)
    rw [at2_cons, at2_cons]
    exact ih
theorem way_facts (h : roomS L = true) {a b : T2} (ha : onFloor L a) (hb : onFloor L b) : (∀ k ∈ wayS L a b, k < L.length) ∧ ((wayS L a b).length : Int) = max 0 (bestS L b a - 1) ∧ (wayS L a b).length ≤ 10 ∧ walkR L (walkL L a (wayS L a b) b) = true := by
  have hr := roomP_of h
  have hhi := hr.hi
  obtain ⟨m, e, hm, hmb⟩ := floor_way h ha hb (link_bound L)
  have hbd := bestS_bound L b a
  have key : Chain L a ((wayS L a b).map (at2 L)) b ∧ (∀ k ∈ wayS L a b, k < L.length) ∧ ((wayS L a b).length : Int) = max 0 (bestS L b a - 1) := by
    unfold wayS nOf
    rw [e]
    cases m with
    | zero =>
      refine ⟨?_, by simp [wayN], by simp [wayN]; omega⟩
      show seesS L a b = true
      rw [hm.1.zero]
      exact sees_self hr hb.1 hb.2
    | succ t =>
      rw [show (((t + 1 : Nat) : Int) - 1).toNat = t by omega]
      obtain ⟨h1, h2, h3⟩ := way_chain t a hm
      exact ⟨h1, h2, by rw [h3]; omega⟩
  obtain ⟨h1, h2, h3⟩ := key
  refine ⟨h2, h3, by omega, ?_⟩
  have hlen : (walkL L a (wayS L a b) b).length = (wayS L a b).length + 2 := by unfold walkL ptsL; simp
  have hform : walkL L a (wayS L a b) b = a :: ((wayS L a b).map (at2 L) ++ [b]) := by unfold walkL ptsL; simp
  have hst := chain_steps _ _ h1
  rw [← hform] at hst
  have hmem : ∀ p, p ∈ walkL L a (wayS L a b) b → onFloor L p := fun p hp => by
    unfold walkL ptsL at hp
    simp only [List.mem_append, List.mem_singleton, List.mem_map] at hp
    rcases hp with (rfl | ⟨k, hk, rfl⟩) | rfl
    · exact ha
    · exact floor_corner h (h2 k hk)
    · exact hb
  unfold walkR
  rw [Bool.and_eq_true, Bool.and_eq_true, decide_eq_true_iff]
  refine ⟨by omega, ?_, ?_⟩
  · unfold allIn insI
    rw [h, Bool.and_true, allN_iff]
    intro k hk
    have hf := hmem _ (at2_mem hk)
    have h5 := hf.1
    have h6 := hf.2
    rw [Bool.and_eq_true]
    exact ⟨h5, by simpa using h6⟩
  · rw [allN_iff]
    intro k hk
    exact hst k (by omega)
end
end Go.Proofs.Ytkifapcegiajiaa
/- Walks: slices.Max and the greatest number of pieces between corners. Conditions: a valid room; not empty. -/
namespace Go.Proofs.Ytkifapcegiajiaa
open Go.RowKit
set_option linter.unusedVariables false

def mxT (l : List Int) : Nat → Int
  | 0 => atI l 0
  | k + 1 => if mxT l k < atI l k then atI l k else mxT l k
theorem mxT_one (l : List Int) : mxT l 1 = atI l 0 := by unfold mxT mxT; split <;> omega
theorem mxT_ge (l : List Int) : ∀ n k, k < n → atI l k ≤ mxT l n
  | 0, k, h => by omega
  | n + 1, k, h => by
    simp only [mxT]
    rcases Nat.lt_or_ge k n with h' | h'
    · have := mxT_ge l n k h'; split <;> omega
    · obtain rfl : k = n := by omega
      split <;> omega
theorem mxT_bd {l : List Int} {M : Int} (h0 : 0 < l.length) (h : ∀ k, k < l.length → atI l k ≤ M) : ∀ n, n ≤ l.length → mxT l n ≤ M
  | 0, _ => h 0 h0
  | n + 1, hn => by
    have ih := mxT_bd h0 h n (by omega)
    have := h n (by omega)
    simp only [mxT]
    split <;> omega
theorem Max_any (A : Option Addr) (n c : Nat) (l : List Int) (w : World) (hl : Row w A (l.map (Value.int .i64))) (hn : l.length = n) (hx : n ≤ 9223372036854775807) (h0 : 0 < n) :
    Gives Try.prog 55 #[.slice A n c] w (.int .i64 (mxT l n)) := by
  subst hn
  have hb : ¬ ((l.length : Int) < 1) := by omega
  obtain ⟨b, off, hA, hc⟩ := hl.ints h0
  subst hA
  have c0 := hc 0 h0
  rw [Nat.add_zero] at c0
  unfold Gives
  go_enter Try.func55, Try.ntmps55
  go_wp2_with fail
  go_loopw [3, 4] (fun m i wr => ∃ (k : Nat), 1 ≤ k ∧ k ≤ l.length ∧ i = .int .i64 ↑k ∧ m = .int .i64 (mxT l k) ∧ Ext w wr) (fun _ i _ => (l.length - (intOf i).toNat))
  case atStart => exact ⟨1, by omega, by omega, rfl, by rw [mxT_one], Ext.refl _⟩
  case round =>
    obtain ⟨k, h1, hkn, rfl, rfl, he⟩ := hrel
    obtain ⟨x, rfl⟩ := he.ex
    by_cases hlt : k < l.length
    · have c1 := hc k hlt
      clear hc
      go_wp2_with fail
      go_roundw
      case rel =>
        refine ⟨k + 1, by omega, by omega, by go_num, rfl, ?_⟩
        repeat (first | exact Ext.refl _ | refine Ext.alloc ?_ _ | assumption | refine Ext.over ?_ _ | refine Ext.drew ?_ | refine Ext.drewN ?_ _)
      case measure => simp [intOf]; omega
    · clear hc
      go_wp2_with fail
      go_ret
      obtain rfl : k = l.length := by omega
      exact ⟨rfl, he⟩
theorem dist_best {L : List T2} {q : T2} {i v : Nat} (hi : i < L.length) (hv : v < L.length) : distF L (L ++ [at2 L i]) q v = bestS L q (at2 L v) := by
  have h1 := distF_spec (L := L) (F := L ++ [at2 L i]) (q := q) (v := v) (by simp; omega)
  rw [at2_app hv] at h1
  refine DSpec.uniq h1 ?_
  have hC : ∀ y, y ∈ L ++ [at2 L i] ↔ y ∈ L := fun y => by
    rw [List.mem_append, List.mem_singleton]
    constructor
    · rintro (h | rfl)
      · exact h
      · exact at2_mem hi
    · exact .inl
  rcases best_spec L q (at2 L v) with ⟨m, e, h2, h3⟩ | ⟨e, h2⟩
  · exact .inl ⟨m, e, h2.sub (fun y hy => (hC y).2 hy), fun k hk hp => h3 k hk (hp.sub (fun y hy => (hC y).1 hy))⟩
  · exact .inr ⟨e, fun m hp => h2 m (hp.sub (fun y hy => (hC y).1 hy))⟩
set_option maxHeartbeats 1600000 in
set_option maxRecDepth 100000 in
theorem link_any (A : Option Addr) (n c : Nat) (L : List T2) (w : World) (hl : Row w A (L.flatMap T2.v)) (hn : L.length = n) (hro : roomS L = true) :
    Calls Try.prog 29 #[.agg #[.slice A n c]] w fun en w' => ∃ m : Int, en = .returned (.int .i64 m) ∧ (0 ≤ m ∧ m ≤ 11) ∧ (∀ i v, i < L.length → v < L.length → bestS L (at2 L i) (at2 L v) ≤ m) ∧ Ext w w' := by
  subst hn
  have hr := roomP_of hro
  have hn10 : L.length ≤ 10 := hr.hi
  have hn3 : 3 ≤ L.length := hr.lo
  have HRI := hid (show roomI L = true by rw [room_eq]; exact hro)
  have HPI := hid (fun i (hi : i < L.length) w' (h : Row w' A (L.flatMap T2.v)) => piecesTo_any A L.length c L (at2 L i) (at2 L i) w' h rfl hro (hr.pok i hi) (hr.pok i hi))
  have HL := hid hl
  clear hl hr
  have HRO := hid (fun w' (h : Row w' A (L.flatMap T2.v)) => gives_b HRI.out (iRoomOk_any A L.length c L w' h rfl (by omega)))
  obtain ⟨w0, hw0⟩ : ∃ w0, w0 = w.alloc (.cells #[.slice A L.length c] 33) := ⟨_, rfl⟩
  have e0 : Ext w w0 := by rw [hw0]; repeat (first | exact Ext.refl _ | refine Ext.alloc ?_ _ | assumption | refine Ext.over ?_ _ | refine Ext.drew ?_ | refine Ext.drewN ?_ _)
  have b0 := (show w0.cell? ⟨w.heap.size, 0, none⟩ = some (.slice A L.length c) by rw [hw0]; go_simp)
  have HE0 := hid e0
  unfold ptV at HPI
  go_enter Try.func29, Try.ntmps29
  go_wp2_with (go_at_call 54; refine (HRO.out _ (HL.out.ext (by repeat (first | exact Ext.refl _ | refine Ext.alloc ?_ _ | assumption | refine Ext.over ?_ _ | refine Ext.drew ?_ | refine Ext.drewN ?_ _)))).over.mono ?_; rintro e w' ⟨rfl, xw, rfl⟩)
  rw [← hw0]
  generalize w.heap.size = br at b0 ⊢
  clear hw0 e0
  go_loopw [3, 14] (fun mv kv wr => ∃ (k : Nat) (z : Int), k ≤ L.length ∧ kv = .int .i64 ↑k ∧ mv = .int .i64 z ∧ (0 ≤ z ∧ z ≤ 11) ∧ (∀ i v, i < k → v < L.length → bestS L (at2 L i) (at2 L v) ≤ z) ∧ Ext w0 wr) (fun _ kv _ => L.length - (intOf kv).toNat)
  case atStart => exact ⟨0, 0, by omega, rfl, rfl, by omega, fun i v hi => by omega, by repeat (first | exact Ext.refl _ | refine Ext.alloc ?_ _ | assumption | refine Ext.over ?_ _ | refine Ext.drew ?_ | refine Ext.drewN ?_ _)⟩
  case round =>
    obtain ⟨k, z, hkl, rfl, rfl, hz, hle, he⟩ := hrel
    have HE := hid he
    have HLE := hid hle
    have r0 := old_cell he b0
    clear he hle
    by_cases hlt : k < L.length
    · obtain ⟨b, off, hA, hc⟩ := (HL.out.ext (HE0.out.trans HE.out)).t2 hlt
      obtain ⟨c1, c2⟩ := hc k hlt
      have HP := hid (HPI.out k hlt)
      have HBB := hid (fun v => bestS_bound L (at2 L k) (at2 L v))
      have HDB := hid (fun v (hv : v < L.length) => dist_best (q := at2 L k) hlt hv)
      subst hA
      clear hc
      generalize hpk : at2 L k = p at c1 c2 HP HBB HDB
      replace hpk := hid hpk
      go_wp2_with fail
      refine (HP.out _ (HL.out.ext ((HE0.out.trans HE.out).trans (by repeat (first | exact Ext.refl _ | refine Ext.alloc ?_ _ | assumption | refine Ext.over ?_ _ | refine Ext.drew ?_ | refine Ext.drewN ?_ _))))).mono ?_
      rintro _ w2 ⟨g, d, rfl, ho, he⟩
      obtain ⟨l, hl⟩ : ∃ l : List Int, l = (List.range L.length).map fun v => distF L (L ++ [p]) p v := ⟨_, rfl⟩
      have hll : l.length = L.length := by rw [hl]; simp
      have HA := hid (show ∀ v, v < L.length → atI l v = bestS L p (at2 L v) from fun v hv => by
        rw [atI_eq _ _ (by rw [hll]; exact hv), ← HDB.out v hv]
        simp [hl])
      have HROW := hid (show Row w2 (some ⟨g, 0, none⟩) (l.map (Value.int .i64)) from by
        have := Row.of_own ho
        rw [hl, List.map_map]
        exact this)
      have HLL := hid hll
      have HG1 := hid (fun v (hv : v < L.length) => show bestS L p (at2 L v) ≤ mxT l L.length by rw [← HA.out v hv]; exact mxT_ge l _ v hv)
      have hM1 : -1 ≤ mxT l L.length := by have := HG1.out 0 (by omega); have := HBB.out 0; omega
      have hM2 : mxT l L.length ≤ 11 := mxT_bd (by omega) (fun v hv => by rw [HA.out v (by omega)]; have := HBB.out v; omega) _ (by omega)
      have HMX := hid (fun w' (h : Row w' (some ⟨g, 0, none⟩) (l.map (Value.int .i64))) => Max_any (some ⟨g, 0, none⟩) L.length d l w' h HLL.out (by omega) (by omega))
      have HE2 := hid (HE.out.trans (Ext.trans (show Ext wr _ by repeat (first | exact Ext.refl _ | refine Ext.alloc ?_ _ | assumption | refine Ext.over ?_ _ | refine Ext.drew ?_ | refine Ext.drewN ?_ _)) he))
      clear hl hll ho he c1 c2 r0
      generalize mxT l L.length = M at HG1 hM1 hM2 HMX
      go_wp2_with (go_at_call 55; refine (HMX.out _ (HROW.out.ext (by repeat (first | exact Ext.refl _ | refine Ext.alloc ?_ _ | assumption | refine Ext.over ?_ _ | refine Ext.drew ?_ | refine Ext.drewN ?_ _)))).over.mono ?_; rintro e w' ⟨rfl, xw, rfl⟩)
      go_roundw
      case rel =>
        refine ⟨k + 1, _, by omega, by go_num, rfl, ?_, ?_, HE2.out.trans (by repeat (first | exact Ext.refl _ | refine Ext.alloc ?_ _ | assumption | refine Ext.over ?_ _ | refine Ext.drew ?_ | refine Ext.drewN ?_ _))⟩
        · first | omega | (split <;> omega)
        · intro i v hi hv
          rcases Nat.lt_or_ge i k with h | h
          · have := HLE.out i v h hv
            first | omega | (split <;> omega)
          · obtain rfl : i = k := by omega
            have := HG1.out v hv
            rw [hpk.out]
            first | omega | (split <;> omega)
      case measure => simp [intOf]; omega
    · obtain rfl : k = L.length := by omega
      go_wp2_with fail
      go_ret
      exact ⟨z, rfl, hz, HLE.out, HE0.out.trans HE.out⟩
end Go.Proofs.Ytkifapcegiajiaa
/- Walks: the program's points of corners. Conditions: a valid room, valid corners. -/
namespace Go.Proofs.Ytkifapcegiajiaa
open Go.RowKit
set_option linter.unusedVariables false

set_option maxHeartbeats 1600000 in
set_option maxRecDepth 100000 in
theorem iPoints_any (A : Option Addr) (n c : Nat) (L : List T2) (B : Option Addr) (m d : Nat) (ks : List Nat) (w : World) (hl : Row w A (L.flatMap T2.v)) (hn : L.length = n) (hro : roomS L = true) (hr : Row w B (vl ks)) (hm : ks.length = m) (hy : m ≤ 40) (hks : ∀ k ∈ ks, k < L.length) :
    Calls Try.prog 28 #[.agg #[.slice A n c], .slice B m d] w fun en w' => ∃ D c', en = .returned (.slice D m c') ∧ w'.ownsRow w.heap.size 35 2 (.slice D m c') m ((ptsL L ks).flatMap T2.v) ∧ Ext w w' := by
  subst hn hm
  have hn10 : L.length ≤ 10 := (roomP_of hro).hi
  obtain ⟨w0, hw0⟩ : ∃ w0, w0 = w.alloc (.cells #[.slice A L.length c] 33) := ⟨_, rfl⟩
  have e0 : Ext w w0 := by rw [hw0]; repeat (first | exact Ext.refl _ | refine Ext.alloc ?_ _ | assumption | refine Ext.over ?_ _ | refine Ext.drew ?_ | refine Ext.drewN ?_ _)
  have r0 := (show w0.cell? ⟨w.heap.size, 0, none⟩ = some (.slice A L.length c) by rw [hw0]; go_simp)
  have hs0 : w0.heap.size = w.heap.size + 1 := by rw [hw0]; simp
  have HS0 := hid hs0
  have HR0 := hid r0
  have HE0 := hid e0
  have HL := hid (hl.ext e0)
  have HK := hid (hr.ext e0)
  have HRI := hid (show roomI L = true by rw [room_eq]; exact hro)
  have HRO := hid (fun w' (e : Ext w w') => gives_b HRI.out (iRoomOk_any A L.length c L w' (hl.ext e) rfl (by omega)))
  have HKS := hid hks
  clear hl hr hks r0 e0 hs0
  go_enter Try.func28, Try.ntmps28
  go_wp2_with (go_at_call 54; refine (HRO.out _ (by repeat (first | exact Ext.refl _ | refine Ext.alloc ?_ _ | assumption | refine Ext.over ?_ _ | refine Ext.drew ?_ | refine Ext.drewN ?_ _))).over.mono ?_; rintro e w' ⟨rfl, xw, rfl⟩)
  rw [← hw0]
  clear hw0
  have hbs : w.heap.size < w0.heap.size := by have := HS0.out; omega
  rw [← HS0.out]
  go_loopw [5, 14] (fun ov kv wr => ∃ (k : Nat) (D : Option Addr) (c' : Nat), k ≤ ks.length ∧ kv = .int .i64 ↑k ∧ ov = .slice D k c' ∧ wr.ownsRow w0.heap.size 35 2 (.slice D k c') k ((ptsL L (ks.take k)).flatMap T2.v) ∧ Ext w0 wr) (fun _ kv _ => ks.length - (intOf kv).toNat)
  case atStart => exact ⟨0, _, _, by omega, rfl, rfl, own_empty _ _ _ (by simp [ovr_size]) (by simp [ovr_size]) _ _, by repeat (first | exact Ext.refl _ | refine Ext.alloc ?_ _ | assumption | refine Ext.over ?_ _ | refine Ext.drew ?_ | refine Ext.drewN ?_ _)⟩
  case round =>
    obtain ⟨k, D, c', hkl, rfl, rfl, hown, he⟩ := hrel
    have HO := hid hown
    have HE := hid he
    clear hown he
    by_cases hlt : k < ks.length
    · have hkt : (k : Int) < ks.length := by omega
      obtain ⟨kv, hkv⟩ : ∃ kv, kv = ks[k] := ⟨_, rfl⟩
      have hkn : kv < L.length := by rw [hkv]; exact HKS.out _ (List.getElem_mem hlt)
      have hknt : (kv : Int) < L.length := by omega
      have HT := hid (show ptsL L (ks.take (k + 1)) = ptsL L (ks.take k) ++ [at2 L kv] by rw [hkv]; exact ptsL_take hlt)
      obtain ⟨b1, o1, hB, hcB⟩ := (HK.out.ext HE.out).at_ (j := k) (by rw [vl_len]; exact hlt)
      have y0 := hcB k (.int .i64 (kv : Int)) (by unfold vl; rw [List.getElem?_map, List.getElem?_eq_getElem hlt, hkv]; rfl)
      obtain ⟨b2, o2, hA, hcA⟩ := (HL.out.ext HE.out).t2 hkn
      obtain ⟨z0, z1⟩ := hcA kv hkn
      have r0 := old_cell HE.out HR0.out
      have hin : btw (kv : Int) 0 ((L.length : Int) - 1) = true := btw_iff.2 (by omega)
      subst hB hA
      clear hcA hcB hkv
      generalize w.heap.size = bw at r0 hbs ⊢
      generalize hp : at2 L kv = p at z0 z1 HT
      replace hp := hid hp
      go_wp2_with (first | (go_at_call 50; refine (gives_b hin (between_any _ _ _ _)).over.mono ?_; rintro e w' ⟨rfl, xw, rfl⟩) | (at_builtin; refine wpList_push (w0) rfl (.tmp 25) (.tmp 31) 31 rfl 35 Try.underlying31 info_PointC rfl (by decide) _ k _ rfl (wr) HO.out (by repeat (first | exact Ext.refl _ | refine Ext.alloc ?_ _ | assumption | refine Ext.over ?_ _ | refine Ext.drew ?_ | refine Ext.drewN ?_ _)) (by repeat (first | exact Ext.refl _ | refine Ext.alloc ?_ _ | assumption | refine Ext.over ?_ _ | refine Ext.drew ?_ | refine Ext.drewN ?_ _)) _ 1 1 [.int .i64 p.a, .int .i64 p.b] rfl rfl (lit_cells _ _ (by first | (simp; done) | simp [ovr_size]) _ _) (by intro u hu; simp at hu; rcases hu with rfl | rfl <;> rfl) (by omega) (by decide) ?_))
      intro A3 c3 w3 hown3 he3
      have HO3 := hid (show w3.ownsRow w0.heap.size 35 2 (.slice A3 (k + 1) c3) (k + 1) ((ptsL L (ks.take (k + 1))).flatMap T2.v) by rw [HT.out, List.flatMap_append]; exact hown3)
      have HE3 := hid he3
      clear hown3 he3 y0 z0 z1 r0
      go_wp2_with fail
      go_roundw
      case rel => exact ⟨k + 1, A3, c3, by omega, by go_num, rfl, own_ext HO3.out (by repeat (first | exact Ext.refl _ | refine Ext.alloc ?_ _ | assumption | refine Ext.over ?_ _ | refine Ext.drew ?_ | refine Ext.drewN ?_ _)), HE3.out.trans (by repeat (first | exact Ext.refl _ | refine Ext.alloc ?_ _ | assumption | refine Ext.over ?_ _ | refine Ext.drew ?_ | refine Ext.drewN ?_ _))⟩
      case measure => simp [intOf]; omega
    · obtain rfl : k = ks.length := by omega
      have HT := hid (show ptsL L (ks.take ks.length) = ptsL L ks by rw [List.take_length])
      go_wp2_with fail
      go_ret
      refine ⟨D, c', rfl, ?_, HE0.out.trans HE.out⟩
      rw [← HT.out]
      exact own_base HO.out (by omega)
end Go.Proofs.Ytkifapcegiajiaa
/- Walks of the helpers of the laws that draw. Conditions: sizes. -/
namespace Go.Proofs.Ytkifapcegiajiaa
open Go.RowKit
set_option linter.unusedVariables false

theorem big_any (A : Option Addr) (n c : Nat) (w : World) : Gives Try.prog 16 #[.slice A n c] w (.bool (decide ((1048576 : Int) < n))) := by
  (unfold Gives; go_enter Try.func16, Try.ntmps16)
  go_wp2_with fail
  go_ret
  exact ⟨rfl, by repeat (first | exact Ext.refl _ | refine Ext.alloc ?_ _ | assumption | refine Ext.over ?_ _ | refine Ext.drew ?_ | refine Ext.drewN ?_ _)⟩
/-- A number out of the bytes. -/
def atV (bs : List Int) (i : Nat) : Int := if bs.length = 0 then 0 else bs.getD ((i * 5 + 1) % bs.length) 0
theorem atV_bound {bs : List Int} (hz : ∀ z ∈ bs, 0 ≤ z ∧ z ≤ 255) (i : Nat) : 0 ≤ atV bs i ∧ atV bs i ≤ 255 := by
  unfold atV
  split
  · omega
  · rename_i h
    have hlt : (i * 5 + 1) % bs.length < bs.length := Nat.mod_lt _ (by omega)
    rw [List.getD_eq_getElem?_getD, List.getElem?_eq_getElem hlt]
    exact hz _ (List.getElem_mem hlt)
theorem at_any (A : Option Addr) (n c : Nat) (bs : List Int) (i : Nat) (w : World) (hl : Row w A (bs.map (Value.int .u8))) (hn : bs.length = n) (hx : n ≤ 1048576) (hi : i ≤ 100) (hz : ∀ z ∈ bs, 0 ≤ z ∧ z ≤ 255) :
    Gives Try.prog 18 #[.slice A n c, .int .i64 i] w (.int .i64 (atV bs i)) := by
  subst hn
  have HZ := hid hz
  clear hz
  by_cases h0 : bs.length = 0
  · have HV := hid (show atV bs i = 0 by unfold atV; rw [if_pos h0])
    (unfold Gives; go_enter Try.func18, Try.ntmps18)
    go_wp2_with fail
    go_ret
    exact ⟨by rw [HV.out]; rfl, by repeat (first | exact Ext.refl _ | refine Ext.alloc ?_ _ | assumption | refine Ext.over ?_ _ | refine Ext.drew ?_ | refine Ext.drewN ?_ _)⟩
  · have hne : ((bs.length : Int) == 0) = false := by rw [beq_eq_false_iff_ne]; omega
    have hlt : (i * 5 + 1) % bs.length < bs.length := Nat.mod_lt _ (by omega)
    obtain ⟨j, hj⟩ : ∃ j, j = (i * 5 + 1) % bs.length := ⟨_, rfl⟩
    rw [← hj] at hlt
    have hmod : ((i : Int) * 5 + 1) % (bs.length : Int) = (j : Int) := by rw [hj, Int.natCast_emod]; rfl
    have HV := hid (show atV bs i = bs[j] by unfold atV; rw [if_neg h0, ← hj, List.getD_eq_getElem?_getD, List.getElem?_eq_getElem hlt]; rfl)
    obtain ⟨b, off, rfl, hc⟩ := hl.at_ (j := j) (by simpa using hlt)
    have hbyte := hc j _ (by rw [List.getElem?_map, List.getElem?_eq_getElem hlt]; rfl)
    have hbz := HZ.out _ (List.getElem_mem hlt)
    generalize bs[j] = y at hbyte hbz HV
    clear hc hj
    (unfold Gives; go_enter Try.func18, Try.ntmps18)
    go_wp2_with fail
    go_ret
    exact ⟨by rw [HV.out]; rfl, by repeat (first | exact Ext.refl _ | refine Ext.alloc ?_ _ | assumption | refine Ext.over ?_ _ | refine Ext.drew ?_ | refine Ext.drewN ?_ _)⟩
end Go.Proofs.Ytkifapcegiajiaa
/- Appending a slice of any length in a drawing region; a list without its k-th element. Conditions: the sizes that Go's own append asks. -/
namespace Go.Proofs.Ytkifapcegiajiaa
open Go.RowKit
section
variable {P : Program} {ops : Array Oper}
/-- append of a slice that reads as these cells, whatever its length. -/
theorem her_pushS (wa : World) {w : World} {o : Oper} {a : Act} {K : Act → World → Prop} (s x : Operand) (t : TypeId)
    (ho : o.op = .call { callee := .builtin .append, args := #[s, x], argTypes := #[t, t] })
    (e : TypeId) {z : Value} {size bytes : Nat} (ht : P.underlying t = some (.slice e)) (hinfo : (P.info? e).map (fun i => (i.zero, i.size, i.bytes)) = some (some z, size, bytes)) (hzs : z.cells.size = size) (hsz : 0 < size)
    (v : Value) (n : Nat) (xs : List Value) (hs : a.eval s = v) (hown : w.ownsRow wa.heap.size e size v n xs) (hea : Ext wa w)
    (B : Option Addr) (m c : Nat) (news : List Value) (hx : a.eval x = .slice B m c) (hBc : B = none → c = 0) (hl : news.length = m * size) (hrow : Row w B news) (h1 : ∀ u ∈ news, u.oneCell' = true)
    (h63 : n + m ≤ 1000000000000) (hby : bytes ≤ 100)
    (h : ∀ A' c' w', w'.ownsRow wa.heap.size e size (.slice A' (n + m) c') (n + m) (xs ++ news) → Ext wa w' → w.grownBy w' v.ownBlock → K (a.put o.dst (.slice A' (n + m) c')) w') : herOp P o a w K := by
  obtain ⟨i, hi, hz0, hz1, hz2⟩ := info_parts hinfo
  cases B with
  | none =>
    have hm : m = 0 := by
      rcases Nat.eq_zero_or_pos m with h0 | h0
      · exact h0
      · have : news ≠ [] := fun e => by subst e; have := Nat.mul_pos h0 hsz; rw [List.length_nil] at hl; omega
        obtain ⟨b, off, h2, _⟩ := hrow this
        cases h2
    subst hm
    obtain rfl := hBc rfl
    have hn0 : news = [] := List.eq_nil_of_length_eq_zero (by omega)
    subst hn0
    obtain ⟨A', c', rfl⟩ := own_form hown
    have hrun := run_append_owned_none (P := P) (w := w) wa.heap.size t o.type e i size ht hi _ n xs hown
    unfold herOp execOp
    simp only [ho, resolve, invoke, builtin, Sem.run_bind, Sem.run_pure, Result.andThen_ok, List.map_toArray, List.map_cons, List.map_nil, hs, hx, hrun]
    have := h A' c' w (by simpa using hown) hea (World.grownBy.refl _ _)
    show K _ _
    simpa using this
  | some ad =>
    have hnews : ∀ j u, news[j]? = some u → w.cell? (ad.add j) = some u := fun j u hu => by
      have hne : news ≠ [] := fun e => by subst e; simp at hu
      obtain ⟨b, off, h2, h3⟩ := hrow hne
      cases h2
      rw [show (⟨b, off, none⟩ : Addr).add j = ⟨b, off + j, none⟩ from by unfold Addr.add; split <;> simp_all]
      exact h3 j u hu
    obtain ⟨v', w', hr, h2, h3, _⟩ := run_append_own (P := P) (w := w) wa.heap.size t o.type e i z size bytes ht hi hz0 hz1 hz2 hzs hsz v n xs hown ad m c news hl hnews h1 (by unfold maxLen; omega) (by have := Nat.mul_le_mul h63 hby; omega) hea.size
    obtain ⟨A', c', rfl⟩ := own_form h2
    unfold herOp execOp
    simp only [ho, resolve, invoke, builtin, Sem.run_bind, Sem.run_pure, Result.andThen_ok, List.map_toArray, List.map_cons, List.map_nil, hs, hx, hr]
    exact h A' c' w' h2 (grown_ext hea hown (Nat.le_refl _) h3) h3
end
/-- A part of a row. -/
theorem row_take {w : World} {A : Option Addr} {cs : List Value} (h : Row w A cs) (k : Nat) : Row w A (cs.take k) := fun hne => by
  have hn : cs ≠ [] := fun e => by subst e; simp at hne
  obtain ⟨b, off, rfl, hc⟩ := h hn
  refine ⟨b, off, rfl, fun j u hu => hc j u ?_⟩
  rw [List.getElem?_take] at hu
  split at hu
  · exact hu
  · cases hu
theorem row_drop {w : World} {b off : Nat} {cs : List Value} (h : Row w (some ⟨b, off, none⟩) cs) (k : Nat) : Row w (some ⟨b, off + k, none⟩) (cs.drop k) := fun hne => by
  have hn : cs ≠ [] := fun e => by subst e; simp at hne
  obtain ⟨b', off', e, hc⟩ := h hn
  cases e
  refine ⟨b, off + k, rfl, fun j u hu => ?_⟩
  rw [List.getElem?_drop] at hu
  have := hc (k + j) u hu
  rwa [← Nat.add_assoc] at this
theorem flat_take {α : Type} (f : α → List Value) (m : Nat) (hm : ∀ a, (f a).length = m) : ∀ (l : List α) (k : Nat), (l.flatMap f).take (k * m) = (l.take k).flatMap f
  | l, 0 => by simp
  | [], k + 1 => by simp
  | a :: l, k + 1 => by
    rw [List.flatMap_cons, List.take_succ_cons, List.flatMap_cons, ← flat_take f m hm l k, Nat.succ_mul, Nat.add_comm, List.take_append, hm a]
    rw [List.take_of_length_le (by rw [hm a]; omega)]
    congr 2; omega
theorem flat_drop {α : Type} (f : α → List Value) (m : Nat) (hm : ∀ a, (f a).length = m) : ∀ (l : List α) (k : Nat), (l.flatMap f).drop (k * m) = (l.drop k).flatMap f
  | l, 0 => by simp
  | [], k + 1 => by simp
  | a :: l, k + 1 => by
    rw [List.flatMap_cons, List.drop_succ_cons, ← flat_drop f m hm l k, Nat.succ_mul, Nat.add_comm, List.drop_append, hm a]
    rw [List.drop_eq_nil_of_le (by rw [hm a]; omega), List.nil_append]
    congr 1; omega
def restN {α : Type} (l : List α) (k : Nat) : List α := l.take k ++ l.drop (k + 1)
theorem restN_len {α : Type} {l : List α} {k : Nat} (h : k < l.length) : (restN l k).length = l.length - 1 := by
  unfold restN; simp; omega
end Go.Proofs.Ytkifapcegiajiaa
/-
  As XHer4, with a tree for a script: where two operations may come up, both ways are walked to the end. Condition: a Bool on the statement's text, by the kernel.
-/
namespace Go.Proofs.Ytkifapcegiajiaa
open Go.RowKit
set_option linter.unusedVariables false

section
variable {P : Program} {ops : Array Oper} {md : Region.Mode} {R : World → World → Prop}

inductive Tr
  | nil
  | q (i : Nat) (r : Tr)
  | u (i : Nat) (r : Tr)
  | b (i j : Nat) (r s : Tr)
inductive TrO
  | nil
  | q (o : Oper) (r : TrO)
  | u (o : Oper) (r : TrO)
  | b (o o' : Oper) (r s : TrO)
def pickT (l : List Oper) : Tr → TrO
  | .nil => .nil
  | .q i r => match l[i]? with
    | some o => .q o (pickT l r)
    | none => .nil
  | .u i r => match l[i]? with
    | some o => .u o (pickT l r)
    | none => .nil
  | .b i j r s => match l[i]?, l[j]? with
    | some o, some o' => .b o o' (pickT l r) (pickT l s)
    | _, _ => .nil
def cntT : Tr → Nat
  | .nil => 0
  | .q _ r => cntT r + 1
  | .u _ r => cntT r + 1
  | .b _ _ r _ => cntT r + 1
def okT (md : Region.Mode) (ops : Array Oper) : Tr → Array Bool → Bool
  | .nil, listed => (Region.ready md ops listed).isEmpty
  | .q i r, listed => (Region.ready md ops listed).contains i && Region.free md ops listed i && okT md ops r (listed.setIfInBounds i true)
  | .u i r, listed => decide (Region.ready md ops listed = [i]) && okT md ops r (listed.setIfInBounds i true)
  | .b i j r s, listed => decide (Region.ready md ops listed = [i, j]) && (decide (cntT s = cntT r) && (okT md ops r (listed.setIfInBounds i true) && okT md ops s (listed.setIfInBounds j true)))
def wpW (P : Program) (ops : Array Oper) (R : World → World → Prop) (w1 : World) (Q : Act → World → Prop) : TrO → Act → World → Prop
  | .nil, a, w => Q a w
  | .q o r, a, w => if Region.wanted o (yielded ops a.tmps) then qX P o a w1 (fun a' => wpW P ops R w1 Q r a' w) else wpW P ops R w1 Q r (a.put o.dst undef) w
  | .u o r, a, w => stepH P ops R o (wpW P ops R w1 Q r) a w
  | .b o o' r s, a, w => stepH P ops R o (wpW P ops R w1 Q r) a w ∧ stepH P ops R o' (wpW P ops R w1 Q s) a w
theorem wpW_script {l : List Oper} {w1 : World} {Q : Act → World → Prop} (hs : Region.noSelect l.toArray = true) : ∀ (sc : Tr) (listed : Array Bool) (a : Act) (w : World), Below w1.heap.size w1 w →
    okT md l.toArray sc listed = true → wpW P l.toArray (Below w1.heap.size) w1 Q (pickT l sc) a w → wpX P md l.toArray (Below w1.heap.size) Q (cntT sc) listed a w
  | .nil, listed, a, w, hb, hB, h => ⟨by simpa [okT] using hB, h⟩
  | .q i r, listed, a, w, hb, hB, h => by
    simp only [okT, Bool.and_eq_true] at hB
    obtain ⟨⟨hr, hf⟩, hB'⟩ := hB
    have hri : i ∈ Region.ready md l.toArray listed := by simpa using hr
    obtain ⟨_, o, ho, _⟩ := mem_ready.1 hri
    have hol : l[i]? = some o := by simpa using ho
    simp only [pickT, hol] at h
    unfold wpW at h
    show wpX P md l.toArray (Below w1.heap.size) Q (cntT r + 1) listed a w
    by_cases hw : Region.wanted o (yielded l.toArray a.tmps) = true
    · rw [if_pos hw] at h
      obtain ⟨v, hv, hK⟩ := h
      exact wpX_first (below_steady _) ho (Region.noSelect_spec hs) (cntT r) listed a w (Region.free_spec ho hf) hri (.inl ⟨hw, fun w0 h0 => hv w0 (Ext.ex (hb.trans h0))⟩) (wpW_script hs r _ _ w hb hB' hK)
    · rw [if_neg hw] at h
      exact wpX_first (below_steady _) ho (Region.noSelect_spec hs) (cntT r) listed a w (Region.free_spec ho hf) hri (.inr ⟨by simpa using hw, rfl⟩) (wpW_script hs r _ _ w hb hB' h)
  | .u i r, listed, a, w, hb, hB, h => by
    simp only [okT, Bool.and_eq_true, decide_eq_true_eq] at hB
    have hri : i ∈ Region.ready md l.toArray listed := by rw [hB.1]; simp
    obtain ⟨_, o, ho, _⟩ := mem_ready.1 hri
    have hol : l[i]? = some o := by simpa using ho
    simp only [pickT, hol] at h
    unfold wpW at h
    show wpX P md l.toArray (Below w1.heap.size) Q (cntT r + 1) listed a w
    refine And.intro (fun h0 => by rw [hB.1] at h0; cases h0) (fun j hj => ?_)
    rw [hB.1] at hj
    obtain rfl : j = i := by simpa using hj
    exact stepH_at (below_steady _) ho (fun a'' w'' hR hk => wpW_script hs r _ _ _ (hb.trans hR) hB.2 hk) h
  | .b i j r s, listed, a, w, hb, hB, h => by
    simp only [okT, Bool.and_eq_true, decide_eq_true_eq] at hB
    obtain ⟨h1, h2, h3, h4⟩ := hB
    have hri : i ∈ Region.ready md l.toArray listed := by rw [h1]; simp
    have hrj : j ∈ Region.ready md l.toArray listed := by rw [h1]; simp
    obtain ⟨_, o, ho, _⟩ := mem_ready.1 hri
    obtain ⟨_, o', ho', _⟩ := mem_ready.1 hrj
    have hol : l[i]? = some o := by simpa using ho
    have hol' : l[j]? = some o' := by simpa using ho'
    simp only [pickT, hol, hol'] at h
    unfold wpW at h
    show wpX P md l.toArray (Below w1.heap.size) Q (cntT r + 1) listed a w
    refine And.intro (fun h0 => by rw [h1] at h0; cases h0) (fun q hq => ?_)
    rw [h1] at hq
    by_cases hqi : q = i
    · subst hqi
      exact stepH_at (below_steady _) ho (fun a'' w'' hR hk => wpW_script hs r _ _ _ (hb.trans hR) h3 hk) h.1
    · obtain rfl : q = j := by
        rcases (show q = i ∨ q = j by simpa using hq) with h5 | h5
        · exact absurd h5 hqi
        · exact h5
      refine stepH_at (below_steady _) ho' (fun a'' w'' hR hk => ?_) h.2
      have := wpW_script hs s _ _ _ (hb.trans hR) h4 hk
      rw [h2] at this
      exact this
theorem wp_region_t {id : Nat} {Q : Exit → Act → World → Prop} {a : Act} {w : World} {l : List Oper} (sc : Tr) (hm : P.follows .mixedOrders = true)
    (hB : (Region.noSelect l.toArray && decide (cntT sc = l.length) && okT .any l.toArray sc (Array.replicate l.length false)) = true)
    (h : ∀ w1, Ext w w1 → wpW P l.toArray (Below w1.heap.size) w1 (fun a'' w'' => Q .normal a'' w'') (pickT l sc) a w1) : (Code.region id l.toArray true).wp P Q a w := by
  simp only [Bool.and_eq_true, decide_eq_true_eq] at hB
  obtain ⟨⟨h1, h2⟩, h3⟩ := hB
  refine wp_region_any hm ?_
  have h4 := wpW_script (md := .any) (w1 := w.drew) h1 sc (Array.replicate l.length false) a w.drew (Below.refl _ _) h3 (h w.drew (Below.drew (Below.refl _ _)))
  rw [h2] at h4
  simpa using wpAny_of_X (fun a w h => h) _ _ _ _ h4
theorem wpW_nil {w1 : World} {Q : Act → World → Prop} {a : Act} {w : World} (h : Q a w) : wpW P ops R w1 Q .nil a w := h
theorem wpW_q {w1 : World} {Q : Act → World → Prop} {a : Act} {w : World} {o : Oper} {r : TrO}
    (h : ∀ K : Act → Prop, (∀ a, wpW P ops R w1 Q r a w → K a) → if Region.wanted o (yielded ops a.tmps) then qX P o a w1 K else K (a.put o.dst undef)) : wpW P ops R w1 Q (.q o r) a w :=
  h _ (fun _ h => h)
theorem wpW_u {w1 : World} {Q : Act → World → Prop} {a : Act} {w : World} {o : Oper} {r : TrO} (h : stepH P ops R o (wpW P ops R w1 Q r) a w) : wpW P ops R w1 Q (.u o r) a w := h
theorem wpW_b {w1 : World} {Q : Act → World → Prop} {a : Act} {w : World} {o o' : Oper} {r s : TrO} (h : stepH P ops R o (wpW P ops R w1 Q r) a w) (h' : stepH P ops R o' (wpW P ops R w1 Q s) a w) : wpW P ops R w1 Q (.b o o' r s) a w := ⟨h, h'⟩
end
end Go.Proofs.Ytkifapcegiajiaa
