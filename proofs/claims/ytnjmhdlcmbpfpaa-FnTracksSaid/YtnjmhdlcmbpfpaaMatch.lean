/-
  Kuhn's matching algorithm, as plain functions, and what it computes: at its end as many left vertices fail as there are vertices in a largest set of pairwise unrelated ones. No condition but that the relation is transitive and irreflexive.
-/
import Derived.Test.YtnjmhdlcmbpfpaaRow
namespace Go.Proofs.Ytnjmhdlcmbpfpaa
namespace Match

abbrev St := List Int × List Bool

def loop (c : Nat → Nat → Bool) (rec : Nat → St → Bool × St) (i : Nat) : List Nat → St → Bool × St
  | [], s => (false, s)
  | k :: ks, s =>
    if s.2.getD k true || !c i k then loop c rec i ks s
    else if s.1.getD k 0 < 0 then (true, (s.1.set k i, s.2.set k true))
    else if (rec (s.1.getD k 0).toNat (s.1, s.2.set k true)).1 then
      (true, ((rec (s.1.getD k 0).toNat (s.1, s.2.set k true)).2.1.set k i, (rec (s.1.getD k 0).toNat (s.1, s.2.set k true)).2.2))
    else loop c rec i ks (rec (s.1.getD k 0).toNat (s.1, s.2.set k true)).2

def ext (c : Nat → Nat → Bool) (n : Nat) : Nat → Nat → St → Bool × St
  | 0, _, s => (false, s)
  | f + 1, i, s => loop c (ext c n f) i (List.range n) s

/-- How many have not been tried. -/
def left (t : List Bool) : Nat := (t.filter (fun b => !b)).length

/-- One left vertex after the other: the pairs, and how many failed. -/
def run (c : Nat → Nat → Bool) (n : Nat) : List Nat → List Int × Int → List Int × Int
  | [], s => s
  | i :: is, s =>
    run c n is ((ext c n (n + 1) i (s.1, List.replicate n false)).2.1, if (ext c n (n + 1) i (s.1, List.replicate n false)).1 then s.2 - 1 else s.2)

def tracks (c : Nat → Nat → Bool) (n : Nat) : Int := (run c n (List.range n) (List.replicate n (-1), (n : Int))).2

/-! ### An augmenting way -/
def Aug (c : Nat → Nat → Bool) (n : Nat) (b : List Int) : Nat → Nat → List Int → Prop
  | 0, _, _ => False
  | m + 1, i, b' => ∃ k, k < n ∧ c i k = true ∧
      ((b.getD k 0 < 0 ∧ b' = b.set k i) ∨ (0 ≤ b.getD k 0 ∧ ∃ b2, Aug c n b m (b.getD k 0).toNat b2 ∧ b2.getD k 0 = b.getD k 0 ∧ b' = b2.set k i))

theorem getD_set_self {α : Type} (l : List α) (k : Nat) (x d : α) (h : k < l.length) : (l.set k x).getD k d = x := by
  simp [List.getD, h]
theorem getD_set_ne {α : Type} (l : List α) (k j : Nat) (x d : α) (h : k ≠ j) : (l.set k x).getD j d = l.getD j d := by
  simp [List.getD, h]

/-- What a state must be: as many pairs as vertices, each a vertex. -/
def Ok (n : Nat) (s : St) : Prop := s.1.length = n ∧ s.2.length = n ∧ ∀ k, k < n → s.1.getD k 0 < n

/-- What a search that returns has done. -/
structure Done (c : Nat → Nat → Bool) (n : Nat) (i : Nat) (s : St) (r : Bool × St) : Prop where
  ok : Ok n r.2
  more : ∀ k, s.2.getD k true = true → r.2.2.getD k true = true
  kept : r.1 = false → r.2.1 = s.1
  closed : r.1 = false → ∀ k, r.2.2.getD k true = true → s.2.getD k true = false → 0 ≤ s.1.getD k 0 ∧ ∀ j, j < n → c (s.1.getD k 0).toNat j = true → r.2.2.getD j true = true
  tried : r.1 = true → ∀ k, s.2.getD k true = true → r.2.1.getD k 0 = s.1.getD k 0
  aug : r.1 = true → ∃ m, Aug c n s.1 m i r.2.1


theorem left_le : ∀ (t t' : List Bool), t.length = t'.length → (∀ k, t.getD k true = true → t'.getD k true = true) → left t' ≤ left t
  | [], [], _, _ => Nat.le_refl _
  | [], _ :: _, h, _ => by simp at h
  | _ :: _, [], h, _ => by simp at h
  | x :: t, y :: t', h, hk => by
    have ih := left_le t t' (by simpa using h) (fun k => by simpa using hk (k + 1))
    have h0 := hk 0
    simp at h0
    unfold left at *
    cases x <;> cases y <;> simp_all <;> omega

theorem left_set : ∀ (t : List Bool) (k : Nat), t.getD k true = false → left (t.set k true) + 1 = left t
  | [], k, h => by simp at h
  | x :: t, 0, h => by
    simp at h
    subst h
    simp [left]
  | x :: t, k + 1, h => by
    have ih := left_set t k (by simpa using h)
    unfold left at *
    cases x <;> simp_all

theorem lt_of_untried {t : List Bool} {k : Nat} (h : t.getD k true = false) : k < t.length := by
  rcases Nat.lt_or_ge k t.length with h' | h'
  · exact h'
  · simp [List.getD, List.getElem?_eq_none h'] at h

theorem set_more {t : List Bool} {k : Nat} (j : Nat) (h : t.getD j true = true) : (t.set k true).getD j true = true := by
  by_cases e : k = j
  · subst e
    rcases Nat.lt_or_ge k t.length with h' | h'
    · rw [getD_set_self _ _ _ _ h']
    · simp [List.getD, h']
  · rw [getD_set_ne _ _ _ _ _ e]; exact h

section
variable {c : Nat → Nat → Bool} {n : Nat}

theorem loop_done {rec : Nat → St → Bool × St} {F : Nat} {i : Nat} (hi : i < n)
    (hrec : ∀ j s, j < n → Ok n s → left s.2 < F → Done c n j s (rec j s) ∧ ((rec j s).1 = false → ∀ k, k < n → c j k = true → (rec j s).2.2.getD k true = true)) :
    ∀ (ks : List Nat) (s : St), (∀ k ∈ ks, k < n) → Ok n s → left s.2 ≤ F → Done c n i s (loop c rec i ks s) ∧ ((loop c rec i ks s).1 = false → ∀ k ∈ ks, c i k = true → (loop c rec i ks s).2.2.getD k true = true)
  | [], s, _, hs, _ => ⟨⟨hs, fun _ h => h, fun _ => rfl, fun _ k h h' => (by rw [loop] at h; rw [h'] at h; cases h), fun h => (nomatch h), fun h => (nomatch h)⟩, fun _ k hk => (nomatch hk)⟩
  | k :: ks, s, hks, hs, hF => by
    have hk : k < n := hks k (by simp)
    have hks' : ∀ k ∈ ks, k < n := fun k h => hks k (by simp [h])
    unfold loop
    by_cases h1 : (s.2.getD k true || !c i k) = true
    · rw [if_pos h1]
      obtain ⟨D, A⟩ := loop_done hi hrec ks s hks' hs hF
      refine ⟨D, fun hf k' hk' hc => ?_⟩
      rcases List.mem_cons.1 hk' with rfl | hk'
      · simp [hc] at h1
        exact D.more _ (by simpa [List.getD] using h1)
      · exact A hf k' hk' hc
    rw [if_neg h1]
    have h1' : (s.2.getD k true || !c i k) = false := by simpa only [Bool.not_eq_true] using h1
    obtain ⟨hun, hc'⟩ := Bool.or_eq_false_iff.1 h1'
    have hc : c i k = true := by simpa using hc'
    clear hc' h1'
    have hl := left_set s.2 k hun
    have hkl := lt_of_untried hun
    by_cases h2 : s.1.getD k 0 < 0
    · rw [if_pos h2]
      refine ⟨⟨⟨by simpa using hs.1, by simpa using hs.2.1, fun j hj => ?_⟩, fun j hj => set_more j hj, fun h => (nomatch h), fun h => (nomatch h), fun _ j hj => ?_, fun _ => ⟨1, k, hk, hc, .inl ⟨h2, rfl⟩⟩⟩, fun h => (nomatch h)⟩
      · by_cases e : k = j
        · subst e
          show (s.1.set k (i : Int)).getD k 0 < n
          rw [getD_set_self _ _ _ _ (by rw [hs.1]; exact hk)]; omega
        · show (s.1.set k (i : Int)).getD j 0 < n
          rw [getD_set_ne _ _ _ _ _ e]; exact hs.2.2 j hj
      · have e : k ≠ j := by rintro rfl; rw [hun] at hj; cases hj
        exact getD_set_ne _ _ _ _ _ e
    rw [if_neg h2]
    have hj : (s.1.getD k 0).toNat < n := by have := hs.2.2 k hk; omega
    have hs1 : Ok n (s.1, s.2.set k true) := ⟨hs.1, by simpa using hs.2.1, hs.2.2⟩
    obtain ⟨D0, A0⟩ := hrec (s.1.getD k 0).toNat (s.1, s.2.set k true) hj hs1 (by show left (s.2.set k true) < F; omega)
    generalize rec (s.1.getD k 0).toNat (s.1, s.2.set k true) = r0 at D0 A0 ⊢
    have m0 : ∀ j, s.2.getD j true = true → r0.2.2.getD j true = true := fun j hj => D0.more j (set_more j hj)
    have mk : r0.2.2.getD k true = true := D0.more k (by show (s.2.set k true).getD k true = true; rw [getD_set_self _ _ _ _ hkl])
    by_cases h3 : r0.1 = true
    · rw [if_pos h3]
      obtain ⟨m, hm⟩ := D0.aug h3
      have hkb : r0.2.1.getD k 0 = s.1.getD k 0 := D0.tried h3 k (by show (s.2.set k true).getD k true = true; rw [getD_set_self _ _ _ _ hkl])
      refine ⟨⟨⟨by simpa using D0.ok.1, D0.ok.2.1, fun j hj => ?_⟩, m0, fun h => (nomatch h), fun h => (nomatch h), fun _ j hj => ?_, fun _ => ⟨m + 1, k, hk, hc, .inr ⟨by omega, r0.2.1, hm, hkb, rfl⟩⟩⟩, fun h => (nomatch h)⟩
      · by_cases e : k = j
        · subst e
          show (r0.2.1.set k (i : Int)).getD k 0 < n
          rw [getD_set_self _ _ _ _ (by rw [D0.ok.1]; exact hk)]; omega
        · show (r0.2.1.set k (i : Int)).getD j 0 < n
          rw [getD_set_ne _ _ _ _ _ e]; exact D0.ok.2.2 j hj
      · have e : k ≠ j := by rintro rfl; rw [hun] at hj; cases hj
        show (r0.2.1.set k (i : Int)).getD j 0 = _
        rw [getD_set_ne _ _ _ _ _ e]
        exact D0.tried h3 j (set_more j hj)
    rw [if_neg h3]
    have h3' : r0.1 = false := by simpa using h3
    have hb : r0.2.1 = s.1 := D0.kept h3'
    have hle : left r0.2.2 ≤ left (s.2.set k true) := left_le _ _ (by rw [D0.ok.2.1]; simpa using hs.2.1) D0.more
    obtain ⟨L, A⟩ := loop_done hi hrec ks r0.2 hks' D0.ok (by omega)
    refine ⟨⟨L.ok, fun j hj => L.more j (m0 j hj), fun h => (L.kept h).trans hb, fun hf k' hk' hu => ?_, fun ht j hj => ?_, fun ht => ?_⟩, fun hf k' hk' hc' => ?_⟩
    · by_cases e : r0.2.2.getD k' true = true
      · by_cases ek : k = k'
        · subst ek
          exact ⟨by omega, fun j hjn hcj => L.more j (A0 h3' j hjn hcj)⟩
        · have := D0.closed h3' k' e (by show (s.2.set k true).getD k' true = false; rw [getD_set_ne _ _ _ _ _ ek]; exact hu)
          exact ⟨this.1, fun j hjn hcj => L.more j (this.2 j hjn hcj)⟩
      · have := L.closed hf k' hk' (by simpa using e)
        rwa [hb] at this
    · rw [L.tried ht j (m0 j hj), hb]
    · have := L.aug ht
      rwa [hb] at this
    · rcases List.mem_cons.1 hk' with rfl | hk'
      · exact L.more _ mk
      · exact A hf k' hk' hc'

theorem ext_done : ∀ (f i : Nat) (s : St), i < n → Ok n s → left s.2 < f → Done c n i s (ext c n f i s) ∧ ((ext c n f i s).1 = false → ∀ k, k < n → c i k = true → (ext c n f i s).2.2.getD k true = true)
  | 0, _, _, _, _, h => by omega
  | f + 1, i, s, hi, hs, hl => by
    obtain ⟨D, A⟩ := loop_done (c := c) (rec := ext c n f) (F := f) hi (fun j s hj hs hl => ext_done f j s hj hs hl) (List.range n) s (fun k hk => by simpa using hk) hs (by omega)
    exact ⟨D, fun hf k hk hc => A hf k (by simpa using hk) hc⟩

/-! ### What an augmenting way does -/
theorem count_set (x y : Int) : ∀ (l : List Int) (k : Nat), k < l.length → (l.set k y).count x + (if l.getD k 0 = x then 1 else 0) = l.count x + (if y = x then 1 else 0)
  | [], k, h => by simp at h
  | z :: l, 0, _ => by
    simp only [List.set_cons_zero, List.count_cons, List.getD_cons_zero, beq_iff_eq]
    split <;> split <;> omega
  | z :: l, k + 1, h => by
    have ih := count_set x y l k (by simpa using h)
    simp only [List.set_cons_succ, List.count_cons, List.getD_cons_succ]
    omega

theorem aug_count (b : List Int) (hb : b.length = n) : ∀ (m i : Nat) (b' : List Int), Aug c n b m i b' → b'.length = n ∧ ∀ x : Nat, b'.count (x : Int) = b.count (x : Int) + if x = i then 1 else 0
  | 0, _, _, h => h.elim
  | m + 1, i, b', h => by
    obtain ⟨k, hk, hc, ⟨h1, rfl⟩ | ⟨h1, b2, h2, h3, rfl⟩⟩ := h
    · refine ⟨by simpa using hb, fun x => ?_⟩
      have := count_set (x : Int) (i : Int) b k (by omega)
      rw [if_neg (by omega)] at this
      rw [Nat.add_zero] at this
      rw [this]
      by_cases e : x = i <;> simp [e, eq_comm]
      omega
    · obtain ⟨hl, hcnt⟩ := aug_count b hb m _ b2 h2
      refine ⟨by simpa using hl, fun x => ?_⟩
      have h4 := count_set (x : Int) (i : Int) b2 k (by omega)
      have h5 := hcnt x
      have e1 : (b2.getD k 0 = (x : Int)) ↔ x = (b.getD k 0).toNat := by rw [h3]; omega
      have e2 : ((i : Int) = (x : Int)) ↔ x = i := by omega
      simp only [e1, e2] at h4
      omega

theorem aug_edges (b : List Int) (hb : b.length = n) (he : ∀ k, k < n → 0 ≤ b.getD k 0 → c (b.getD k 0).toNat k = true) : ∀ (m i : Nat) (b' : List Int), Aug c n b m i b' → ∀ k, k < n → 0 ≤ b'.getD k 0 → c (b'.getD k 0).toNat k = true
  | 0, _, _, h => h.elim
  | m + 1, i, b', h => by
    obtain ⟨k0, hk0, hc, ⟨h1, rfl⟩ | ⟨h1, b2, h2, h3, rfl⟩⟩ := h
    · intro k hk h0
      by_cases e : k0 = k
      · subst e; rw [getD_set_self _ _ _ _ (by omega)]; simpa using hc
      · rw [getD_set_ne _ _ _ _ _ e] at h0 ⊢; exact he k hk h0
    · intro k hk h0
      have hl := (aug_count b hb m _ b2 h2).1
      by_cases e : k0 = k
      · subst e; rw [getD_set_self _ _ _ _ (by omega)]; simpa using hc
      · rw [getD_set_ne _ _ _ _ _ e] at h0 ⊢; exact aug_edges b hb he m _ b2 h2 k hk h0

/-- A set of right vertices that no augmenting way enters. -/
structure Shut (c : Nat → Nat → Bool) (n : Nat) (b : List Int) (T : Nat → Bool) : Prop where
  paired : ∀ k, k < n → T k = true → 0 ≤ b.getD k 0
  next : ∀ k, k < n → T k = true → ∀ j, j < n → c (b.getD k 0).toNat j = true → T j = true

theorem no_aug {b : List Int} {T : Nat → Bool} (hT : Shut c n b T) : ∀ (m i : Nat) (b' : List Int), (∀ j, j < n → c i j = true → T j = true) → ¬ Aug c n b m i b'
  | 0, _, _, _, h => h
  | m + 1, i, b', hi, h => by
    obtain ⟨k, hk, hc, ⟨h1, _⟩ | ⟨h1, b2, h2, _, _⟩⟩ := h
    · have := hT.paired k hk (hi k hk hc); omega
    · exact no_aug hT m _ b2 (hT.next k hk (hi k hk hc)) h2

theorem aug_avoid {b : List Int} {T : Nat → Bool} (hT : Shut c n b T) : ∀ (m i : Nat) (b' : List Int), Aug c n b m i b' → ∀ k, T k = true → b'.getD k 0 = b.getD k 0
  | 0, _, _, h => h.elim
  | m + 1, i, b', h => by
    obtain ⟨k0, hk0, hc, ⟨h1, rfl⟩ | ⟨h1, b2, h2, h3, rfl⟩⟩ := h
    · intro k hk
      have e : k0 ≠ k := by rintro rfl; have := hT.paired k0 hk0 hk; omega
      exact getD_set_ne _ _ _ _ _ e
    · intro k hk
      have e : k0 ≠ k := by rintro rfl; exact no_aug hT m _ b2 (hT.next k0 hk0 hk) h2
      rw [getD_set_ne _ _ _ _ _ e]
      exact aug_avoid hT m _ b2 h2 k hk
end

/-! ### The whole run -/
section
variable {c : Nat → Nat → Bool} {n : Nat}

/-- After the left vertices P, of which D failed. -/
structure Inv (c : Nat → Nat → Bool) (n : Nat) (P D : List Nat) (b : List Int) : Prop where
  len : b.length = n
  lt : ∀ k, k < n → b.getD k 0 < n
  edge : ∀ k, k < n → 0 ≤ b.getD k 0 → c (b.getD k 0).toNat k = true
  cnt : ∀ x : Nat, b.count (x : Int) = if x ∈ P ∧ x ∉ D then 1 else 0
  sub : ∀ x ∈ D, x ∈ P
  dup : D.Nodup
  shut : ∃ T : Nat → Bool, Shut c n b T ∧ ∀ i ∈ D, ∀ j, j < n → c i j = true → T j = true

theorem left_replicate (n : Nat) : left (List.replicate n false) = n := by
  unfold left
  rw [List.filter_eq_self.2 (by intro a ha; rw [List.eq_of_mem_replicate ha]; rfl)]
  simp

theorem inv_step {P D : List Nat} {b : List Int} {i : Nat} (hI : Inv c n P D b) (hi : i < n) (hiP : i ∉ P) :
    ((ext c n (n + 1) i (b, List.replicate n false)).1 = true → Inv c n (i :: P) D (ext c n (n + 1) i (b, List.replicate n false)).2.1) ∧
    ((ext c n (n + 1) i (b, List.replicate n false)).1 = false → Inv c n (i :: P) (i :: D) (ext c n (n + 1) i (b, List.replicate n false)).2.1) := by
  have hok : Ok n (b, List.replicate n false) := ⟨hI.len, by simp, hI.lt⟩
  obtain ⟨X, A⟩ := ext_done (c := c) (n + 1) i (b, List.replicate n false) hi hok (by rw [left_replicate]; omega)
  generalize ext c n (n + 1) i (b, List.replicate n false) = r at X A ⊢
  have hiD : i ∉ D := fun h => hiP (hI.sub i h)
  obtain ⟨T, hT, hD⟩ := hI.shut
  constructor
  · intro ht
    obtain ⟨m, hm⟩ := X.aug ht
    obtain ⟨h1, h2⟩ := aug_count b hI.len m i _ hm
    refine ⟨h1, X.ok.2.2, aug_edges b hI.len hI.edge m i _ hm, fun x => ?_, fun x hx => by simp [hI.sub x hx], hI.dup, T, ⟨fun k hk ht => ?_, fun k hk ht => ?_⟩, hD⟩
    · rw [h2, hI.cnt]
      by_cases e : x = i
      · subst e
        simp [hiP, hiD]
      · simp [e]
    · rw [aug_avoid hT m i _ hm k ht]; exact hT.paired k hk ht
    · rw [aug_avoid hT m i _ hm k ht]; exact hT.next k hk ht
  · intro hf
    have hb : r.2.1 = b := X.kept hf
    rw [hb]
    have hun : ∀ k, k < n → (List.replicate n false).getD k true = false := fun k hk => by simp [List.getD, hk]
    refine ⟨hI.len, hI.lt, hI.edge, fun x => ?_, fun x hx => ?_, by simp [hI.dup, hiD], fun k => T k || r.2.2.getD k true, ⟨fun k hk ht => ?_, fun k hk ht j hj hc => ?_⟩, fun x hx j hj hc => ?_⟩
    · rw [hI.cnt]
      by_cases e : x = i
      · subst e
        simp [hiP]
      · simp [e]
    · rcases List.mem_cons.1 hx with rfl | hx
      · simp
      · simp [hI.sub x hx]
    · simp only [Bool.or_eq_true] at ht
      rcases ht with ht | ht
      · exact hT.paired k hk ht
      · exact (X.closed hf k ht (hun k hk)).1
    · simp only [Bool.or_eq_true] at ht ⊢
      rcases ht with ht | ht
      · exact .inl (hT.next k hk ht j hj hc)
      · exact .inr ((X.closed hf k ht (hun k hk)).2 j hj hc)
    · simp only [Bool.or_eq_true]
      rcases List.mem_cons.1 hx with rfl | hx
      · exact .inr (A hf j hj hc)
      · exact .inl (hD x hx j hj hc)

theorem run_inv : ∀ (is P D : List Nat) (s : List Int × Int), (∀ i ∈ is, i < n) → is.Nodup → (∀ i ∈ is, i ∉ P) → Inv c n P D s.1 →
    ∃ D', Inv c n (is.reverse ++ P) D' (run c n is s).1 ∧ (run c n is s).2 = s.2 - is.length + (D'.length - D.length)
  | [], P, D, s, _, _, _, hI => ⟨D, by simpa [run] using hI, by simp [run]⟩
  | i :: is, P, D, s, hlt, hnd, hP, hI => by
    have hi : i < n := hlt i (by simp)
    have hiP : i ∉ P := hP i (by simp)
    obtain ⟨ht, hf⟩ := inv_step hI hi hiP
    have hnd' := List.nodup_cons.1 hnd
    have hP' : ∀ j ∈ is, j ∉ i :: P := fun j hj h => by
      rcases List.mem_cons.1 h with rfl | h
      · exact hnd'.1 hj
      · exact hP j (by simp [hj]) h
    unfold run
    cases he : (ext c n (n + 1) i (s.1, List.replicate n false)).1 with
    | true =>
      obtain ⟨D', h1, h2⟩ := run_inv is (i :: P) D (_, s.2 - 1) (fun j hj => hlt j (by simp [hj])) hnd'.2 hP' (ht he)
      refine ⟨D', by simpa using h1, ?_⟩
      simp only [if_true]
      rw [h2]
      simp only [List.length_cons]
      omega
    | false =>
      obtain ⟨D', h1, h2⟩ := run_inv is (i :: P) (i :: D) (_, s.2) (fun j hj => hlt j (by simp [hj])) hnd'.2 hP' (hf he)
      refine ⟨D', by simpa using h1, ?_⟩
      simp only [Bool.false_eq_true, if_false]
      rw [h2]
      simp only [List.length_cons]
      omega

/-- At the end: as many tracks as vertices that failed. -/
theorem tracks_inv : ∃ D b, Inv c n (List.range n).reverse D b ∧ tracks c n = D.length := by
  have hI : Inv c n [] [] (List.replicate n (-1 : Int)) := by
    refine ⟨by simp, fun k hk => ?_, fun k hk h => ?_, fun x => ?_, by simp, by simp, fun _ => false, ⟨by simp, by simp⟩, by simp⟩
    · simp [List.getD, hk]; omega
    · simp [List.getD, hk] at h
    · rw [List.count_eq_zero_of_not_mem]
      · simp
      · intro h; have := List.eq_of_mem_replicate h; omega
  obtain ⟨D, h1, h2⟩ := run_inv (List.range n) [] [] (List.replicate n (-1), (n : Int)) (by simp) List.nodup_range (by simp) hI
  refine ⟨D, _, by simpa using h1, ?_⟩
  unfold tracks
  rw [h2]
  simp
end
end Match
end Go.Proofs.Ytnjmhdlcmbpfpaa
