/- Plain law: ways round corners; the program's search and the reference's find the same. No condition. -/
import Derived.Test.YtkifapcegiajiaaSymm
import Derived.Test.YtkifapcegiajiaaBfs
namespace Go.Proofs.Ytkifapcegiajiaa
open Go.RowKit
set_option linter.unusedVariables false

/-- A way of m pieces from x to q round corners of C. -/
inductive PW (L : List T2) (C : T2 → Prop) (q : T2) : Nat → T2 → Prop
  | nil : PW L C q 0 q
  | one {x : T2} : seesS L x q = true → x ≠ q → PW L C q 1 x
  | more {m : Nat} {x y : T2} : PW L C q (m + 1) y → C y → seesS L x y = true → x ≠ q → PW L C q (m + 2) x
theorem PW.zero {L : List T2} {C : T2 → Prop} {q x : T2} (h : PW L C q 0 x) : x = q := by cases h; rfl
theorem PW.ne {L : List T2} {C : T2 → Prop} {q x : T2} {m : Nat} (h : PW L C q (m + 1) x) : x ≠ q := by cases h <;> assumption
theorem PW.sub {L : List T2} {C C' : T2 → Prop} {q x : T2} {m : Nat} (hC : ∀ y, C y → C' y) (h : PW L C q m x) : PW L C' q m x := by
  induction h with
  | nil => exact .nil
  | one h1 h2 => exact .one h1 h2
  | more h1 h2 h3 h4 ih => exact .more ih (hC _ h2) h3 h4
theorem PW.step {L : List T2} {C : T2 → Prop} {q x y : T2} {m : Nat} (h : PW L C q m y) (hy : C y) (hs : seesS L x y = true) (hx : x ≠ q) : PW L C q (m + 1) x := by
  cases m with
  | zero => rw [PW.zero h] at hs; exact .one hs hx
  | succ m => exact .more h hy hs hx
/-- m is the least number of pieces. -/
def IsD (L : List T2) (C : T2 → Prop) (q : T2) (m : Nat) (x : T2) : Prop := PW L C q m x ∧ ∀ k, k < m → ¬ PW L C q k x
theorem IsD.uniq {L : List T2} {C : T2 → Prop} {q x : T2} {m k : Nat} (h : IsD L C q m x) (h' : IsD L C q k x) : m = k := by
  rcases Nat.lt_trichotomy m k with h1 | h1 | h1
  · exact absurd h.1 (h'.2 m h1)
  · exact h1
  · exact absurd h'.1 (h.2 k h1)
/-- A distance as both searches give it. -/
def DSpec (L : List T2) (C : T2 → Prop) (q x : T2) (d : Int) : Prop := (∃ m : Nat, d = m ∧ IsD L C q m x) ∨ (d = -1 ∧ ∀ m, ¬ PW L C q m x)
theorem DSpec.iff {L : List T2} {C : T2 → Prop} {q x : T2} {d : Int} (h : DSpec L C q x d) (m : Nat) : d = m ↔ IsD L C q m x := by
  rcases h with ⟨k, rfl, hk⟩ | ⟨rfl, hn⟩
  · constructor
    · intro e; obtain rfl : k = m := by omega
      exact hk
    · intro e; rw [hk.uniq e]
  · constructor
    · intro e; omega
    · intro e; exact absurd e.1 (hn m)
theorem DSpec.uniq {L : List T2} {C : T2 → Prop} {q x : T2} {d e : Int} (h : DSpec L C q x d) (h' : DSpec L C q x e) : d = e := by
  rcases h' with ⟨k, rfl, hk⟩ | ⟨rfl, hn⟩
  · exact (h.iff k).2 hk
  · rcases h with ⟨m, _, hm⟩ | ⟨rfl, _⟩
    · exact absurd hm.1 (hn m)
    · rfl
theorem at2_app {F : List T2} {q : T2} {i : Nat} (h : i < F.length) : at2 (F ++ [q]) i = at2 F i := by
  rw [at2_eq _ _ (by rw [List.length_append]; omega), at2_eq _ _ h, List.getElem_append_left h]
theorem at2_last (F : List T2) (q : T2) : at2 (F ++ [q]) F.length = q := by
  rw [at2_eq _ _ (by simp), List.getElem_append_right (Nat.le_refl _)]
  simp
theorem at2_mem {F : List T2} {i : Nat} (h : i < F.length) : at2 F i ∈ F := by rw [at2_eq _ _ h]; exact List.getElem_mem h
theorem mem_at2 {F : List T2} {y : T2} (h : y ∈ F) : ∃ i, i < F.length ∧ at2 F i = y := by
  obtain ⟨i, hi, e⟩ := List.getElem_of_mem h
  exact ⟨i, hi, by rw [at2_eq _ _ hi]; exact e⟩
def adjG (L F : List T2) (q : T2) (i j : Nat) : Bool := !eqP (at2 (F ++ [q]) i) q && seesS L (at2 (F ++ [q]) i) (at2 (F ++ [q]) j)
theorem way_pw {L F : List T2} {q : T2} {m v : Nat} (h : Way (F.length + 1) (adjG L F q) F.length m v) : (v = F.length ∧ m = 0) ∨ (v < F.length ∧ 1 ≤ m ∧ PW L (· ∈ F) q m (at2 F v)) := by
  induction h with
  | nil => exact .inl ⟨rfl, rfl⟩
  | @snoc m u v h1 h2 h3 ih =>
    unfold adjG at h3
    simp only [Bool.and_eq_true, Bool.not_eq_true'] at h3
    obtain ⟨h3, h4⟩ := h3
    have hne : at2 (F ++ [q]) v ≠ q := fun e => by rw [eqP_iff.2 e] at h3; cases h3
    have hv : v < F.length := by
      rcases Nat.lt_or_ge v F.length with h | h
      · exact h
      · exact absurd (by rw [show v = F.length by omega]; exact at2_last F q) hne
    rw [at2_app hv] at h4 hne
    refine .inr ⟨hv, by omega, ?_⟩
    rcases ih with ⟨rfl, rfl⟩ | ⟨h5, h6, h7⟩
    · rw [at2_last] at h4; exact .one h4 hne
    · rw [at2_app h5] at h4
      exact h7.step (at2_mem h5) h4 hne
theorem pw_way {L F : List T2} {q x : T2} {m : Nat} (h : PW L (· ∈ F) q m x) : (m = 0 ∧ x = q) ∨ ∀ v, v < F.length → at2 F v = x → Way (F.length + 1) (adjG L F q) F.length m v := by
  have hadj : ∀ {v u : Nat}, v < F.length → at2 F v ≠ q → seesS L (at2 F v) (at2 (F ++ [q]) u) = true → adjG L F q v u = true := by
    intro v u hv hne hs
    unfold adjG
    rw [at2_app hv, hs, Bool.and_true]
    cases he : eqP (at2 F v) q
    · rfl
    · exact absurd (eqP_iff.1 he) hne
  induction h with
  | nil => exact .inl ⟨rfl, rfl⟩
  | one h1 h2 =>
    refine .inr fun v hv e => .snoc .nil (by omega) (hadj hv (by rw [e]; exact h2) (by rw [e, at2_last]; exact h1))
  | @more m x y h1 h2 h3 h4 ih =>
    obtain ⟨u, hu, rfl⟩ := mem_at2 h2
    rcases ih with ⟨h, _⟩ | ih
    · omega
    · exact .inr fun v hv e => .snoc (ih u hu rfl) (by omega) (hadj hv (by rw [e]; exact h4) (by rw [e, at2_app hu]; exact h3))
def distG (L F : List T2) (q : T2) (v : Nat) : Int := dist (F.length + 1) (adjG L F q) F.length v
def distF (L F : List T2) (q : T2) (v : Nat) : Int := if eqP (at2 F v) q then 0 else distG L F q v
theorem distF_spec {L F : List T2} {q : T2} {v : Nat} (hv : v < F.length) : DSpec L (· ∈ F) q (at2 F v) (distF L F q v) := by
  unfold distF
  cases he : eqP (at2 F v) q
  · have hne : at2 F v ≠ q := fun e => by rw [eqP_iff.2 e] at he; cases he
    rw [if_neg (by simp)]
    have hlt : F.length < F.length + 1 := by omega
    have way : ∀ m, PW L (· ∈ F) q m (at2 F v) → Way (F.length + 1) (adjG L F q) F.length m v := fun m h => by
      rcases pw_way h with ⟨_, h⟩ | h
      · exact absurd h hne
      · exact h v hv rfl
    unfold distG
    rcases Int.lt_or_le (dist (F.length + 1) (adjG L F q) F.length v) 0 with h | h
    · have := dist_ge (n := F.length + 1) (adj := adjG L F q) (a := F.length) v
      exact .inr ⟨by omega, fun m hm => by have := dist_le hlt (way m hm); omega⟩
    · refine .inl ⟨_, (Int.toNat_of_nonneg h).symm, ?_, fun k hk hw => by have := dist_le hlt (way k hw); omega⟩
      rcases way_pw (dist_way hlt h) with ⟨h1, _⟩ | ⟨_, _, h1⟩
      · omega
      · exact h1
  · rw [if_pos rfl, eqP_iff.1 he]
    exact .inl ⟨0, rfl, .nil, fun k hk => by omega⟩
def bestD (D : Nat → Int) (ok : Nat → Bool) : Nat → Int
  | 0 => -1
  | k + 1 => if (decide (0 ≤ D k) && ok k && (decide (bestD D ok k < 0) || decide (D k + 1 < bestD D ok k))) = true then D k + 1 else bestD D ok k
theorem bestD_spec {D : Nat → Int} {ok : Nat → Bool} : ∀ n, (bestD D ok n = -1 ∧ ∀ k, k < n → ok k = true → D k < 0) ∨ (∃ k, k < n ∧ ok k = true ∧ 0 ≤ D k ∧ bestD D ok n = D k + 1 ∧ ∀ j, j < n → ok j = true → 0 ≤ D j → bestD D ok n ≤ D j + 1)
  | 0 => .inl ⟨rfl, fun k hk => by omega⟩
  | n + 1 => by
    have ih := bestD_spec (D := D) (ok := ok) n
    simp only [bestD]
    split
    · rename_i h
      simp only [Bool.and_eq_true, Bool.or_eq_true, decide_eq_true_eq] at h
      refine .inr ⟨n, by omega, h.1.2, h.1.1, rfl, fun j hj ho hd => ?_⟩
      rcases Nat.lt_or_ge j n with hj' | hj'
      · rcases ih with ⟨_, h2⟩ | ⟨k, h1, h2, h3, h4, h5⟩
        · have := h2 j hj' ho; omega
        · have := h5 j hj' ho hd
          rcases h.2 with h | h <;> omega
      · obtain rfl : j = n := by omega
        omega
    · rename_i h
      simp only [Bool.and_eq_true, Bool.or_eq_true, decide_eq_true_eq] at h
      rcases ih with ⟨h1, h2⟩ | ⟨k, h1, h2, h3, h4, h5⟩
      · refine .inl ⟨h1, fun j hj ho => ?_⟩
        rcases Nat.lt_or_ge j n with hj' | hj'
        · exact h2 j hj' ho
        · obtain rfl : j = n := by omega
          rcases Int.lt_or_le (D j) 0 with h' | h'
          · exact h'
          · exact absurd ⟨⟨h', ho⟩, .inl (by omega)⟩ h
      · refine .inr ⟨k, by omega, h2, h3, h4, fun j hj ho hd => ?_⟩
        rcases Nat.lt_or_ge j n with hj' | hj'
        · exact h5 j hj' ho hd
        · obtain rfl : j = n := by omega
          rcases Int.lt_or_le (D j + 1) (bestD D ok j) with h' | h'
          · exact absurd ⟨⟨hd, ho⟩, .inr h'⟩ h
          · exact h'
def seeC (L : List T2) (p : T2) (k : Nat) : Bool := seesS L p (at2 L k)
def bestS (L : List T2) (q p : T2) : Int := if eqP p q then 0 else if seesS L p q then 1 else bestD (distF L L q) (seeC L p) L.length
theorem best_spec (L : List T2) (q p : T2) : DSpec L (· ∈ L) q p (bestS L q p) := by
  unfold bestS
  cases he : eqP p q
  · have hne : p ≠ q := fun e => by rw [eqP_iff.2 e] at he; cases he
    rw [if_neg (by simp)]
    cases hs : seesS L p q
    · rw [if_neg (by simp)]
      have h1 : ¬ PW L (· ∈ L) q 1 p := fun h => by cases h with | one h _ => rw [hs] at h; cases h
      rcases bestD_spec (D := distF L L q) (ok := seeC L p) L.length with ⟨hb, hn⟩ | ⟨k, hk, hok, h0, hb, hmin⟩
      · refine .inr ⟨hb, fun m hm => ?_⟩
        cases hm with
        | nil => exact hne rfl
        | one h _ => rw [hs] at h; cases h
        | more h2 h3 h4 h5 =>
          obtain ⟨k, hk, rfl⟩ := mem_at2 h3
          have := hn k hk h4
          rcases distF_spec (L := L) (q := q) hk with ⟨m, e, _⟩ | ⟨_, e⟩
          · omega
          · exact e _ h2
      · rcases distF_spec (L := L) (q := q) hk with ⟨m, e, hm⟩ | ⟨e, _⟩
        · refine .inl ⟨m + 1, by omega, hm.1.step (at2_mem hk) hok hne, fun j hj hw => ?_⟩
          match j, hw with
          | 0, hw => exact hne hw.zero
          | 1, hw => exact h1 hw
          | j + 2, .more h2 h3 h4 h5 =>
            obtain ⟨i, hi, rfl⟩ := mem_at2 h3
            rcases distF_spec (L := L) (q := q) hi with ⟨mi, e', hmi⟩ | ⟨_, e'⟩
            · have := hmin i hi h4 (by omega)
              have : mi ≤ j + 1 := Nat.le_of_not_lt fun h => hmi.2 _ h h2
              omega
            · exact e' _ h2
        · omega
    · rw [if_pos rfl]
      exact .inl ⟨1, rfl, .one hs hne, fun k hk hw => by obtain rfl : k = 0 := by omega
                                                         exact hne hw.zero⟩
  · rw [if_pos rfl, eqP_iff.1 he]
    exact .inl ⟨0, rfl, .nil, fun k hk => by omega⟩
theorem pw_sup {L : List T2} {p q x : T2} {m : Nat} (h : PW L (· ∈ L ++ [p]) q m x) : (∀ k, k < m → ¬ PW L (· ∈ L ++ [p]) q k p) → PW L (· ∈ L) q m x := by
  induction h with
  | nil => exact fun _ => .nil
  | one h1 h2 => exact fun _ => .one h1 h2
  | @more m x y h1 h2 h3 h4 ih =>
    intro hn
    rcases List.mem_append.1 h2 with h5 | h5
    · exact .more (ih fun k hk => hn k (by omega)) h5 h3 h4
    · have : y = p := by simpa using h5
      rw [this] at h1
      exact absurd h1 (hn (m + 1) (by omega))
theorem pw_sub {L : List T2} {p q x : T2} {m : Nat} (h : PW L (· ∈ L) q m x) : PW L (· ∈ L ++ [p]) q m x := h.sub fun y hy => List.mem_append.2 (.inl hy)
theorem no_p {L : List T2} {p q : T2} {n : Nat} (h : ∀ k, k < n → ¬ PW L (· ∈ L) q k p) : ∀ k, k < n → ¬ PW L (· ∈ L ++ [p]) q k p := by
  intro k
  induction k using Nat.strongRecOn with
  | _ k ih => exact fun hk hw => h k hk (pw_sup hw fun j hj => ih j hj (by omega))
theorem isD_x {L : List T2} {p q x : T2} {n m : Nat} (h : ∀ k, k < n → ¬ PW L (· ∈ L) q k p) (hm : m ≤ n) : IsD L (· ∈ L ++ [p]) q m x ↔ IsD L (· ∈ L) q m x := by
  have hn := no_p h
  have key : ∀ k, k ≤ n → (PW L (· ∈ L ++ [p]) q k x ↔ PW L (· ∈ L) q k x) := fun k hk => ⟨fun hw => pw_sup hw fun j hj => hn j (by omega), pw_sub⟩
  constructor
  · exact fun hd => ⟨(key m hm).1 hd.1, fun k hk hw => hd.2 k hk ((key k (by omega)).2 hw)⟩
  · exact fun hd => ⟨(key m hm).2 hd.1, fun k hk hw => hd.2 k hk ((key k (by omega)).1 hw)⟩
theorem dist_p (L : List T2) (p q : T2) : distF L (L ++ [p]) q L.length = bestS L q p := by
  have h1 := distF_spec (L := L) (F := L ++ [p]) (q := q) (v := L.length) (by simp)
  rw [at2_last] at h1
  have h2 := best_spec L q p
  rcases h2 with ⟨m, e, hm⟩ | ⟨e, hn⟩
  · rw [e]; exact (h1.iff m).2 ((isD_x hm.2 (Nat.le_refl _)).2 hm)
  · rcases h1 with ⟨k, _, hk⟩ | ⟨e', _⟩
    · exact absurd hk.1 (no_p (n := k + 1) (fun j _ => hn j) k (by omega))
    · rw [e, e']
theorem dist_k {L : List T2} {p q : T2} {n m k : Nat} (hp : IsD L (· ∈ L) q n p) (hm : m ≤ n) (hk : k < L.length) : distF L (L ++ [p]) q k = m ↔ IsD L (· ∈ L) q m (at2 L k) := by
  have h1 := distF_spec (L := L) (F := L ++ [p]) (q := q) (v := k) (by rw [List.length_append]; omega)
  rw [at2_app hk] at h1
  rw [h1.iff m, isD_x hp.2 hm]
def firstK (n : Nat) (ok : Nat → Bool) : Option Nat := (List.range n).find? ok
theorem firstK_some {n k : Nat} {ok : Nat → Bool} (hk : k < n) (h : ok k = true) (hn : ∀ j, j < k → ok j = false) : firstK n ok = some k := by
  unfold firstK
  rw [List.find?_eq_some_iff_getElem]
  exact ⟨h, k, by simpa using hk, by simp, fun j hj => by simp [hn j hj]⟩
theorem firstK_none {n : Nat} {ok : Nat → Bool} (hn : ∀ j, j < n → ok j = false) : firstK n ok = none := by
  unfold firstK
  rw [List.find?_eq_none]
  intro j hj
  rw [hn j (by simpa using hj)]; simp
theorem firstK_iff {n k : Nat} {ok : Nat → Bool} (h : firstK n ok = some k) : k < n ∧ ok k = true := by
  unfold firstK at h
  exact ⟨by simpa using List.mem_of_find?_eq_some h, List.find?_some h⟩
theorem firstK_congr {n : Nat} {ok ok' : Nat → Bool} (h : ∀ k, k < n → ok k = ok' k) : firstK n ok = firstK n ok' := by
  cases h1 : firstK n ok' with
  | none =>
    refine firstK_none fun j hj => ?_
    rw [h j hj]
    unfold firstK at h1
    rw [List.find?_eq_none] at h1
    simpa using h1 j (by simpa using hj)
  | some k =>
    unfold firstK at h1
    rw [List.find?_eq_some_iff_getElem] at h1
    obtain ⟨h2, i, hi, e, hj⟩ := h1
    have hi' : i < n := by simpa using hi
    obtain rfl : i = k := by simpa using e
    refine firstK_some hi' (by rw [h i hi']; exact h2) fun j hj' => ?_
    rw [h j (by omega)]
    have := hj j hj'
    simpa using this
/-- The way: at each step the first corner that is one piece nearer and can be seen. -/
def wayN (L : List T2) (ok : Nat → T2 → Nat → Bool) : Nat → T2 → List Nat
  | 0, _ => []
  | t + 1, a => match firstK L.length (ok (t + 1) a) with
    | some k => k :: wayN L ok t (at2 L k)
    | none => wayN L ok t a
theorem wayN_some {L : List T2} {ok : Nat → T2 → Nat → Bool} {t k : Nat} {a : T2} (hk : k < L.length) (h : ok (t + 1) a k = true) (hn : ∀ j, j < k → ok (t + 1) a j = false) : wayN L ok (t + 1) a = k :: wayN L ok t (at2 L k) := by
  simp only [wayN, firstK_some hk h hn]
theorem wayN_none {L : List T2} {ok : Nat → T2 → Nat → Bool} {t : Nat} {a : T2} (hn : ∀ j, j < L.length → ok (t + 1) a j = false) : wayN L ok (t + 1) a = wayN L ok t a := by
  simp only [wayN, firstK_none hn]
theorem wayN_len (L : List T2) (ok : Nat → T2 → Nat → Bool) : ∀ t a, (wayN L ok t a).length ≤ t
  | 0, _ => Nat.le_refl _
  | t + 1, a => by
    simp only [wayN]
    split
    · have := wayN_len L ok t (at2 L ‹Nat›); rw [List.length_cons]; omega
    · have := wayN_len L ok t a; omega
def okI (L : List T2) (D : Nat → Int) (t : Nat) (a : T2) (k : Nat) : Bool := (D k == t) && seesS L a (at2 L k)
def okS (L : List T2) (q : T2) (t : Nat) (a : T2) (k : Nat) : Bool := !eqP (at2 L k) a && seesS L a (at2 L k) && (bestS L q (at2 L k) == t)
theorem next_is {L : List T2} {q a : T2} {t : Nat} (h : IsD L (· ∈ L) q (t + 2) a) : ∃ k, k < L.length ∧ IsD L (· ∈ L) q (t + 1) (at2 L k) ∧ seesS L a (at2 L k) = true := by
  cases h.1 with
  | more h1 h2 h3 h4 =>
    obtain ⟨k, hk, rfl⟩ := mem_at2 h2
    refine ⟨k, hk, ⟨h1, fun j hj hw => h.2 (j + 1) (by omega) (hw.step h2 h3 h4)⟩, h3⟩
theorem okS_iff {L : List T2} {q a : T2} {t k : Nat} (h : IsD L (· ∈ L) q (t + 1) a) : okS L q t a k = true ↔ IsD L (· ∈ L) q t (at2 L k) ∧ seesS L a (at2 L k) = true := by
  unfold okS
  simp only [Bool.and_eq_true, Bool.not_eq_true', beq_iff_eq]
  rw [(best_spec L q (at2 L k)).iff t]
  constructor
  · rintro ⟨⟨_, h2⟩, h3⟩; exact ⟨h3, h2⟩
  · rintro ⟨h3, h2⟩
    refine ⟨⟨?_, h2⟩, h3⟩
    cases he : eqP (at2 L k) a
    · rfl
    · rw [eqP_iff.1 he] at h3
      have := h3.uniq h
      omega
theorem okI_iff {L : List T2} {p q a : T2} {n t k : Nat} (hp : IsD L (· ∈ L) q n p) (ht : t ≤ n) (hk : k < L.length) : okI L (distF L (L ++ [p]) q) t a k = true ↔ IsD L (· ∈ L) q t (at2 L k) ∧ seesS L a (at2 L k) = true := by
  unfold okI
  simp only [Bool.and_eq_true, beq_iff_eq]
  rw [dist_k hp ht hk]
theorem way_eq {L : List T2} {p q : T2} {n : Nat} (hp : IsD L (· ∈ L) q n p) : ∀ t a, t + 1 ≤ n → IsD L (· ∈ L) q (t + 1) a → wayN L (okI L (distF L (L ++ [p]) q)) t a = wayN L (okS L q) t a
  | 0, _, _, _ => rfl
  | t + 1, a, ht, ha => by
    have hc : firstK L.length (okI L (distF L (L ++ [p]) q) (t + 1) a) = firstK L.length (okS L q (t + 1) a) := firstK_congr fun k hk => by
      rw [Bool.eq_iff_iff, okI_iff hp (by omega) hk, okS_iff ha]
    simp only [wayN, hc]
    cases hf : firstK L.length (okS L q (t + 1) a) with
    | some k =>
      obtain ⟨hk, ho⟩ := firstK_iff hf
      have := ((okS_iff ha).1 ho).1
      simp only
      rw [way_eq hp t _ (by omega) this]
    | none =>
      obtain ⟨k, hk, h1, h2⟩ := next_is ha
      unfold firstK at hf
      rw [List.find?_eq_none] at hf
      exact absurd ((okS_iff ha).2 ⟨h1, h2⟩) (hf k (by simpa using hk))
def nOf (L : List T2) (p q : T2) : Nat := (bestS L q p - 1).toNat
def wayI (L : List T2) (p q : T2) : List Nat := wayN L (okI L (distF L (L ++ [p]) q)) (nOf L p q) p
def wayS (L : List T2) (p q : T2) : List Nat := wayN L (okS L q) (nOf L p q) p
theorem ways (L : List T2) (p q : T2) : wayI L p q = wayS L p q := by
  unfold wayI wayS nOf
  rcases best_spec L q p with ⟨m, e, hm⟩ | ⟨e, _⟩
  · rw [e]
    cases m with
    | zero => rfl
    | succ m =>
      rw [show (((m + 1 : Nat) : Int) - 1).toNat = m by omega]
      exact way_eq hm m p (Nat.le_refl _) hm
  · rw [e]; rfl
end Go.Proofs.Ytkifapcegiajiaa
