/- Plain law: corners beside each other see each other; ways between corners are short, and each of their points sees the next. Conditions: a valid room. -/
import Derived.Test.YtkifapcegiajiaaWayP
import Derived.Test.YtkifapcegiajiaaBestS
namespace Go.Proofs.Ytkifapcegiajiaa
open Go.RowKit
set_option linter.unusedVariables false

/-- Walls that are no neighbours do not meet; no wall goes straight on. -/
theorem room_walls {L : List T2} (h : roomS L = true) : (∀ i, i < L.length → bend L i = false) ∧ ∀ i k, i < L.length → k < L.length → i ≠ k → nx L.length i ≠ k → nx L.length k ≠ i → meetQ (at2 L i) (nxt L i) (at2 L k) (nxt L k) = false := by
  have hr := roomP_of h
  unfold roomS at h
  simp only [Bool.and_eq_true] at h
  obtain ⟨⟨⟨h1, h2⟩, h3⟩, h4⟩ := h
  rw [allN_iff] at h3
  have hb : ∀ i, i < L.length → bend L i = false := fun i hi => by
    have := h3 i hi
    unfold rowS at this
    rw [Bool.and_eq_true, Bool.not_eq_true'] at this
    exact this.1
  refine ⟨hb, fun i k hi hk hne e1 e2 => ?_⟩
  have := h3 i hi
  unfold rowS at this
  rw [Bool.and_eq_true, allN_iff] at this
  have := this.2 k hk
  unfold pairS at this
  rw [beq_eq_false_iff_ne.2 (fun e => hne e.symm), beq_eq_false_iff_ne.2 e2, beq_eq_false_iff_ne.2 e1, Bool.false_or, Bool.false_or, Bool.false_or] at this
  have hw : ∀ j, j < L.length → wokP (at2 L j) (nxt L j) = true := fun j hj => by
    unfold wokP
    rw [poks_at h2 hj, show pokT (nxt L j) = true from poks_at h2 (nx_lt hj)]
    cases e5 : eqP (at2 L j) (nxt L j)
    · rfl
    · have h6 := hb j hj
      unfold bend at h6
      rw [← eqP_iff.1 e5, turnP_aab] at h6
      simp at h6
  unfold meetA meetP at this
  rw [hw i hi, hw k hk] at this
  simpa using this
theorem oppo_l (y : Int) : oppo 0 y = false := by unfold oppo; rw [show sgn 0 * sgn y = 0 by rw [show sgn 0 = 0 by decide, Int.zero_mul], IntWalk.wrap64_in _ (by omega)]; rfl
theorem oppo_r (x : Int) : oppo x 0 = false := by rw [oppo_comm]; exact oppo_l x
theorem turn_bab {a b : T2} (ha : small a) (hb : small b) : turnP a b a = 0 := by rw [turn_small ha hb ha]; unfold turnZ; simp
theorem turn_bbb {a b : T2} (ha : small a) (hb : small b) : turnP a b b = 0 := by rw [turn_small ha hb hb]; unfold turnZ; rw [Int.mul_comm, Int.sub_self]
section
variable {L : List T2}
theorem wall_cross (h : roomS L = true) {k j : Nat} (hk : k < L.length) (hj : j < L.length) : crossP (at2 L k) (nxt L k) (at2 L j) (nxt L j) = false := by
  have hr := roomP_of h
  have sk := hr.small k hk
  have sk' : small (nxt L k) := hr.small _ (nx_lt hk)
  by_cases e : k = j
  · subst e
    unfold crossP; rw [turn_bab sk sk', oppo_l]; rfl
  by_cases e1 : nx L.length k = j
  · have : at2 L j = nxt L k := by unfold nxt; rw [e1]
    unfold crossP; rw [this, turn_bbb sk sk', oppo_l]; rfl
  by_cases e2 : nx L.length j = k
  · have : nxt L j = at2 L k := by unfold nxt; rw [e2]
    unfold crossP; rw [this, turn_bab sk sk', oppo_r]; rfl
  have := (room_walls h).2 k j hk hj e e1 e2
  unfold meetQ at this
  simp only [Bool.or_eq_false_iff] at this
  exact this.1.1.1.1
theorem wall_cut (h : roomS L = true) {k j : Nat} (hk : k < L.length) (hj : j < L.length) : cutF L (at2 L k) (nxt L k) j = false := by
  have hr := roomP_of h
  cases hc : cutF L (at2 L k) (nxt L k) j
  · rfl
  exfalso
  unfold cutF at hc
  simp only [Bool.and_eq_true, Bool.not_eq_true'] at hc
  obtain ⟨⟨h1, h2⟩, h3⟩ := hc
  have hjk : j ≠ k := fun e => by rw [e, eqP_iff.2 rfl] at h1; cases h1
  have hjn : nx L.length k ≠ j := fun e => by
    have : at2 L j = nxt L k := by unfold nxt; rw [e]
    rw [this, eqP_iff.2 rfl] at h2; cases h2
  by_cases e2 : nx L.length j = k
  · have hb := (room_walls h).1 j hj
    unfold bend at hb
    have e3 : nxt L j = at2 L k := by unfold nxt; rw [e2]
    have e4 : at2 L (nx2 L.length j) = nxt L k := by
      unfold nxt
      congr 1
      rw [← e2]
      unfold nx nx2
      rw [Nat.mod_add_mod]
    have sk' : small (nxt L k) := hr.small _ (nx_lt hk)
    rw [e3, e4, turn_small (hr.small j hj) (hr.small k hk) sk'] at hb
    have h4 := ((onP_small (hr.small j hj) (hr.small k hk) sk').1 h3).1
    have h5 : turnZ (at2 L j) (at2 L k) (nxt L k) = turnZ (at2 L k) (nxt L k) (at2 L j) := by unfold turnZ; grind
    rw [h5, h4] at hb
    simp at hb
  · have := (room_walls h).2 k j hk hj (fun e => hjk e.symm) hjn e2
    unfold meetQ at this
    simp only [Bool.or_eq_false_iff] at this
    rw [this.1.2] at h3
    cases h3
/-- Neighbours see each other. -/
theorem wall_sees (h : roomS L = true) {k : Nat} (hk : k < L.length) : seesS L (at2 L k) (nxt L k) = true := by
  have hr := roomP_of h
  have hn : nx L.length k ≠ k := by
    unfold nx
    have := hr.lo
    intro e
    rcases Nat.lt_or_ge (k + 1) L.length with h1 | h1
    · rw [Nat.mod_eq_of_lt h1] at e; omega
    · rw [show k + 1 = L.length by omega, Nat.mod_self] at e; omega
  have hab : at2 L k ≠ nxt L k := hr.ne k _ hk (nx_lt hk) (fun e => hn e.symm)
  have sk := hr.small k hk
  have sk' : small (nxt L k) := hr.small _ (nx_lt hk)
  have pk := hr.pok k hk
  have pk' := hr.pok _ (nx_lt (i := k) hk)
  rw [sees_iff hr hab sk sk']
  constructor
  · unfold noCross
    rw [allN_iff]
    intro j hj
    rw [wall_cross h hk hj]; rfl
  · have hmem : ∀ c, c ∈ cutsL L (at2 L k) (nxt L k) L.length → c = at2 L k ∨ c = nxt L k := fun c hc => by
      rcases cuts_iff.1 hc with h1 | h1 | ⟨i, hi, _, h2⟩
      · exact .inl h1
      · exact .inr h1
      · rw [wall_cut h hk hi] at h2; cases h2
    have hmid : ∀ p q, (p = at2 L k ∧ q = nxt L k) ∨ (p = nxt L k ∧ q = at2 L k) → ¬ holdsS (dblL L) (midP p q) < 0 := by
      intro p q hpq
      have hm : midP p q = midP (at2 L k) (nxt L k) := by
        rcases hpq with ⟨rfl, rfl⟩ | ⟨rfl, rfl⟩
        · rfl
        · exact midP_symm _ _
      rw [hm]
      have hoff : offW (dblL L) (midP (at2 L k) (nxt L k)) = false := by
        unfold offW
        refine allN_false (k := k) (by rw [dblL_len]; exact hk) ?_
        unfold onAt
        rw [dbl_at2 hk, dbl_nxt hk]
        have b1 := pok_bd pk
        have b2 := pok_bd (p := nxt L k) pk'
        have := (onP_small (p := midP (at2 L k) (nxt L k)) (a := dbl (at2 L k)) (b := dbl (nxt L k)) (mid_small pk pk') (dbl_small pk) (dbl_small pk')).2 (by
          rw [dbl_val sk, dbl_val sk']
          have hmv : midP (at2 L k) (nxt L k) = ⟨(at2 L k).a + (nxt L k).a, (at2 L k).b + (nxt L k).b⟩ := by
            unfold midP
            rw [IntWalk.wrap64_in _ (by omega), IntWalk.wrap64_in _ (by omega)]
          rw [hmv]
          refine ⟨?_, ?_⟩
          · unfold turnZ; dsimp only; grind
          · unfold inBox; dsimp only; omega)
        rw [this]; rfl
      unfold holdsS
      rw [hoff]
      simp
    intro p hp q hq hne _
    rcases hmem p hp with h1 | h1 <;> rcases hmem q hq with h2 | h2
    · exact absurd (h1.trans h2.symm) hne
    · exact hmid p q (.inl ⟨h1, h2⟩)
    · exact hmid p q (.inr ⟨h1, h2⟩)
    · exact absurd (h1.trans h2.symm) hne
theorem nx_val {n i : Nat} (h : i < n) : nx n i = if i + 1 = n then 0 else i + 1 := by
  unfold nx
  split
  · rename_i e; rw [e, Nat.mod_self]
  · exact Nat.mod_eq_of_lt (by omega)
/-- From corner to corner along the walls. -/
theorem pw_cyc (h : roomS L = true) {j : Nat} (hj : j < L.length) : ∀ d i, i < L.length → (i ≤ j ∧ i + d = j ∨ j < i ∧ i + d = j + L.length) → PW L (· ∈ L) (at2 L j) d (at2 L i)
  | 0, i, hi, hd => by
    obtain rfl : i = j := by omega
    exact .nil
  | d + 1, i, hi, hd => by
    have hr := roomP_of h
    have hlo := hr.lo
    have hne : at2 L i ≠ at2 L j := hr.ne i j hi hj (by omega)
    have hnx := nx_val hi
    have ih := pw_cyc h hj d (nx L.length i) (nx_lt hi) (by rw [hnx]; split <;> omega)
    exact ih.step (at2_mem (nx_lt hi)) (wall_sees h hi) hne
theorem corner_d (h : roomS L = true) {i j : Nat} (hi : i < L.length) (hj : j < L.length) : ∃ m, m ≤ L.length - 1 ∧ IsD L (· ∈ L) (at2 L j) m (at2 L i) := by
  have key : ∃ d, d ≤ L.length - 1 ∧ PW L (· ∈ L) (at2 L j) d (at2 L i) := by
    rcases Nat.lt_or_ge j i with h1 | h1
    · exact ⟨j + L.length - i, by omega, pw_cyc h hj _ i hi (.inr ⟨h1, by omega⟩)⟩
    · exact ⟨j - i, by omega, pw_cyc h hj _ i hi (.inl ⟨h1, by omega⟩)⟩
  obtain ⟨d, hd, hp⟩ := key
  rcases best_spec L (at2 L j) (at2 L i) with ⟨m, _, hm⟩ | ⟨_, hn⟩
  · exact ⟨m, by
      rcases Nat.lt_or_ge d m with h1 | h1
      · exact absurd hp (hm.2 d h1)
      · omega, hm⟩
  · exact absurd hp (hn d)
/-- Each sees the next, and the last sees q. -/
def Chain (L : List T2) : T2 → List T2 → T2 → Prop
  | a, [], q => seesS L a q = true
  | a, x :: r, q => seesS L a x = true ∧ Chain L x r q
theorem way_chain {q : T2} : ∀ t a, IsD L (· ∈ L) q (t + 1) a → Chain L a ((wayN L (okS L q) t a).map (at2 L)) q ∧ (∀ k ∈ wayN L (okS L q) t a, k < L.length) ∧ (wayN L (okS L q) t a).length = t
  | 0, a, h => by
    refine ⟨?_, by simp [wayN], rfl⟩
    show seesS L a q = true
    cases h.1 with
    | one h1 _ => exact h1
  | t + 1, a, h => by
    cases hf : firstK L.length (okS L q (t + 1) a) with
    | none =>
      obtain ⟨k, hk, h1, h2⟩ := next_is h
      unfold firstK at hf
      rw [List.find?_eq_none] at hf
      exact absurd ((okS_iff h).2 ⟨h1, h2⟩) (hf k (by simpa using hk))
    | some k =>
      obtain ⟨hk, ho⟩ := firstK_iff hf
      obtain ⟨h1, h2⟩ := (okS_iff h).1 ho
      obtain ⟨i1, i2, i3⟩ := way_chain t (at2 L k) h1
      have e : wayN L (okS L q) (t + 1) a = k :: wayN L (okS L q) t (at2 L k) := by simp only [wayN, hf]
      rw [e]
      refine ⟨⟨h2, i1⟩, fun j hj => ?_, by rw [List.length_cons, i3]⟩
      rcases List.mem_cons.1 hj with rfl | hj
      · exact hk
      · exact i2 j hj
/-- The way from corner to corner. -/
theorem wayS_chain (h : roomS L = true) {i j : Nat} (hi : i < L.length) (hj : j < L.length) : Chain L (at2 L i) ((wayS L (at2 L i) (at2 L j)).map (at2 L)) (at2 L j) ∧ (∀ k ∈ wayS L (at2 L i) (at2 L j), k < L.length) ∧ (wayS L (at2 L i) (at2 L j)).length ≤ 8 := by
  have hr := roomP_of h
  have hhi := hr.hi
  obtain ⟨m, hm, hd⟩ := corner_d h hi hj
  have hb : bestS L (at2 L j) (at2 L i) = m := ((best_spec L (at2 L j) (at2 L i)).iff m).2 hd
  unfold wayS nOf
  rw [hb]
  cases m with
  | zero =>
    refine ⟨?_, by simp [wayN], by simp [wayN]⟩
    show seesS L (at2 L i) (at2 L j) = true
    have e : at2 L i = at2 L j := PW.zero hd.1
    rw [e]
    exact sees_self hr (hr.pok j hj) (by rw [place_corner hr hj]; omega)
  | succ t =>
    rw [show (((t + 1 : Nat) : Int) - 1).toNat = t by omega]
    obtain ⟨h1, h2, h3⟩ := way_chain t (at2 L i) hd
    exact ⟨h1, h2, by omega⟩
end
end Go.Proofs.Ytkifapcegiajiaa
