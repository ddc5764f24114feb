/- Plain law: sight is the same both ways, every point of a room sees itself, corners on a wall see each other. No condition. -/
import Derived.Test.YtkifapcegiajiaaSeesP
namespace Go.Proofs.Ytkifapcegiajiaa
open Go.RowKit
set_option linter.unusedVariables false

theorem turnZ_swap (a b c : T2) : turnZ b a c = -turnZ a b c := by unfold turnZ; grind
theorem turn_swap {a b c : T2} (ha : small a) (hb : small b) (hc : small c) : turnP b a c = -turnP a b c := by
  rw [turn_small hb ha hc, turn_small ha hb hc, turnZ_swap]
theorem onP_swap {p a b : T2} (hp : small p) (ha : small a) (hb : small b) : onP p a b = onP p b a := by
  rw [Bool.eq_iff_iff, onP_small hp ha hb, onP_small hp hb ha, turnZ_swap b a]
  unfold inBox; omega
theorem sgn_neg (x : Int) : sgn (-x) = -sgn x := by unfold sgn; split <;> split <;> (try split) <;> omega
theorem oppo_zero : oppo 0 0 = false := by unfold oppo; rw [show sgn 0 * sgn 0 = (0 : Int) by decide, IntWalk.wrap64_in _ (by omega)]; rfl
theorem oppo_neg (x y : Int) : oppo (-x) (-y) = oppo x y := by unfold oppo; rw [sgn_neg, sgn_neg, Int.neg_mul_neg]
theorem oppo_comm (x y : Int) : oppo x y = oppo y x := by unfold oppo; rw [Int.mul_comm]
theorem crossP_swap {a b c d : T2} (ha : small a) (hb : small b) (hc : small c) (hd : small d) : crossP b a c d = crossP a b c d := by
  unfold crossP
  rw [turn_swap ha hb hc, turn_swap ha hb hd, oppo_neg, oppo_comm (turnP c d b)]
theorem noCross_symm {L : List T2} (hr : RoomP L) {a b : T2} (ha : small a) (hb : small b) : noCross L a b = noCross L b a := by
  unfold noCross
  refine allN_congr fun k hk => ?_
  rw [crossP_swap (a := b) (b := a) (d := nxt L k) hb ha (hr.small k hk) (hr.small _ (nx_lt hk))]
theorem cuts_iff {L : List T2} {a b c : T2} {k : Nat} : c ∈ cutsL L a b k ↔ c = a ∨ c = b ∨ ∃ i, i < k ∧ c = at2 L i ∧ cutF L a b i = true := by
  refine ⟨cuts_mem, fun h => ?_⟩
  unfold cutsL
  simp only [List.mem_cons, List.mem_map, List.mem_filter, List.mem_range]
  rcases h with h | h | ⟨i, h1, h2, h3⟩
  · exact .inl h
  · exact .inr (.inl h)
  · exact .inr (.inr ⟨i, ⟨h1, h3⟩, h2.symm⟩)
theorem cuts_swap {L : List T2} (hr : RoomP L) {a b c : T2} (ha : small a) (hb : small b) : c ∈ cutsL L a b L.length ↔ c ∈ cutsL L b a L.length := by
  rw [cuts_iff, cuts_iff]
  have key : ∀ i, i < L.length → cutF L a b i = cutF L b a i := fun i hi => by
    unfold cutF
    rw [onP_swap (hr.small i hi) ha hb, Bool.and_comm (!eqP (at2 L i) a)]
  constructor
  · rintro (h | h | ⟨i, h1, h2, h3⟩)
    · exact .inr (.inl h)
    · exact .inl h
    · exact .inr (.inr ⟨i, h1, h2, by rw [← key i h1]; exact h3⟩)
  · rintro (h | h | ⟨i, h1, h2, h3⟩)
    · exact .inr (.inl h)
    · exact .inl h
    · exact .inr (.inr ⟨i, h1, h2, by rw [key i h1]; exact h3⟩)
/-- The middles of cuts next to each other are not outside. -/
def midsOk (L cs : List T2) : Prop := ∀ p, p ∈ cs → ∀ q, q ∈ cs → p ≠ q → (∀ c, c ∈ cs → c ≠ p → c ≠ q → onP c p q = false) → ¬ holdsS (dblL L) (midP p q) < 0
theorem nd_inj {α : Type} {l : List α} (h : l.Nodup) {i j : Nat} (hi : i < l.length) (hj : j < l.length) (e : l[i] = l[j]) : i = j := by
  rcases Nat.lt_trichotomy i j with h1 | h1 | h1
  · exact absurd e (List.pairwise_iff_getElem.1 h i j hi hj h1)
  · exact h1
  · exact absurd e.symm (List.pairwise_iff_getElem.1 h j i hj hi h1)
theorem pairs_mem {L cs : List T2} (hn : cs.Nodup) (hs : ∀ c, c ∈ cs → small c) : pairsC L cs = true ↔ midsOk L cs := by
  have key : ∀ i k, (hi : i < cs.length) → (hk : k < cs.length) → i ≠ k → (freeN cs i k = true ↔ ∀ c, c ∈ cs → c ≠ cs[i] → c ≠ cs[k] → onP c cs[i] cs[k] = false) := by
    intro i k hi hk hne
    unfold freeN
    rw [allN_iff]
    constructor
    · intro h c hc h1 h2
      obtain ⟨j, hj, rfl⟩ := List.getElem_of_mem hc
      have := h j hj
      rw [at2_eq _ _ hj, at2_eq _ _ hi, at2_eq _ _ hk, beq_eq_false_iff_ne.2 (fun e => h1 (by subst e; rfl)), beq_eq_false_iff_ne.2 (fun e => h2 (by subst e; rfl))] at this
      simpa using this
    · intro h j hj
      rw [at2_eq _ _ hj, at2_eq _ _ hi, at2_eq _ _ hk]
      by_cases h1 : j = i
      · rw [beq_iff_eq.2 h1]; rfl
      by_cases h2 : j = k
      · rw [beq_iff_eq.2 h2]; simp
      rw [h _ (List.getElem_mem hj) (fun e => h1 (nd_inj hn hj hi e)) (fun e => h2 (nd_inj hn hj hk e))]
      simp
  have pair : pairsC L cs = true ↔ ∀ i, i < cs.length → ∀ k, k < i → freeN cs i k = true → ¬ holdsS (dblL L) (midP (at2 cs i) (at2 cs k)) < 0 := by
    unfold pairsC
    rw [allN_iff]
    constructor
    · intro h i hi k hk hf
      have := allN_iff.1 (h i hi) k hk
      unfold pairC at this
      rw [hf, Bool.true_and] at this
      simpa using this
    · intro h i hi
      rw [allN_iff]
      intro k hk
      unfold pairC
      cases hf : freeN cs i k
      · rfl
      · have := h i hi k hk hf; simpa using this
  rw [pair]
  constructor
  · intro h p hp q hq hne hf
    obtain ⟨i, hi, rfl⟩ := List.getElem_of_mem hp
    obtain ⟨k, hk, rfl⟩ := List.getElem_of_mem hq
    have hik : i ≠ k := fun e => hne (by subst e; rfl)
    rcases Nat.lt_or_ge k i with hlt | hge
    · have := h i hi k hlt ((key i k hi hk hik).2 hf)
      rwa [at2_eq _ _ hi, at2_eq _ _ hk] at this
    · have := h k hk i (by omega) ((key k i hk hi (fun e => hik e.symm)).2 fun c hc h1 h2 => by rw [onP_swap (hs c hc) (hs _ hq) (hs _ hp)]; exact hf c hc h2 h1)
      rwa [at2_eq _ _ hi, at2_eq _ _ hk, midP_symm] at this
  · intro h i hi k hk hf
    rw [at2_eq _ _ hi, at2_eq _ _ (by omega)]
    exact h _ (List.getElem_mem hi) _ (List.getElem_mem (by omega)) (fun e => by have := nd_inj hn hi (by omega) e; omega) ((key i k hi (by omega) (by omega)).1 hf)
theorem cuts_nd {L : List T2} (hr : RoomP L) {a b : T2} (hab : a ≠ b) (ha : small a) (hb : small b) : (cutsL L a b L.length).Nodup :=
  (cuts_nodup hr hab ha hb).imp fun h e => h (by rw [e])
theorem sees_iff {L : List T2} (hr : RoomP L) {a b : T2} (hab : a ≠ b) (ha : small a) (hb : small b) : seesS L a b = true ↔ noCross L a b = true ∧ midsOk L (cutsL L a b L.length) := by
  unfold seesS
  rw [Bool.and_eq_true, pairs_mem (cuts_nd hr hab ha hb) (fun c hc => (cuts_spec hr ha hb hc).1)]
theorem seesS_symm {L : List T2} (hr : RoomP L) {a b : T2} (ha : small a) (hb : small b) : seesS L a b = seesS L b a := by
  by_cases hab : a = b
  · rw [hab]
  rw [Bool.eq_iff_iff, sees_iff hr hab ha hb, sees_iff hr (fun e => hab e.symm) hb ha, noCross_symm hr ha hb]
  have : ∀ x, x ∈ cutsL L a b L.length ↔ x ∈ cutsL L b a L.length := fun x => cuts_swap hr ha hb
  unfold midsOk
  simp only [this]
/-! Doubling. -/
theorem dbl_val {p : T2} (h : small p) : dbl p = ⟨2 * p.a, 2 * p.b⟩ := by
  unfold small at h
  unfold dbl
  rw [IntWalk.wrap64_in _ (by omega), IntWalk.wrap64_in _ (by omega)]
theorem pok_bd {p : T2} (h : pokT p = true) : (-40 ≤ p.a ∧ p.a ≤ 40) ∧ (-40 ≤ p.b ∧ p.b ≤ 40) := by
  unfold pokT at h; rw [pok_iff] at h; omega
theorem turn_dbl {a b c : T2} (ha : pokT a = true) (hb : pokT b = true) (hc : pokT c = true) : turnP (dbl a) (dbl b) (dbl c) = 4 * turnP a b c := by
  rw [turn_small (dbl_small ha) (dbl_small hb) (dbl_small hc), turn_small (small_pok ha) (small_pok hb) (small_pok hc), dbl_val (small_pok ha), dbl_val (small_pok hb), dbl_val (small_pok hc)]
  unfold turnZ; grind
theorem on_dbl {p a b : T2} (hp : pokT p = true) (ha : pokT a = true) (hb : pokT b = true) : onP (dbl p) (dbl a) (dbl b) = onP p a b := by
  rw [Bool.eq_iff_iff, onP_small (dbl_small hp) (dbl_small ha) (dbl_small hb), onP_small (small_pok hp) (small_pok ha) (small_pok hb), ← turn_small (dbl_small ha) (dbl_small hb) (dbl_small hp), ← turn_small (small_pok ha) (small_pok hb) (small_pok hp), turn_dbl ha hb hp, dbl_val (small_pok ha), dbl_val (small_pok hb), dbl_val (small_pok hp)]
  unfold inBox; simp only; omega
theorem fS_dbl {p a b : T2} (hp : pokT p = true) (ha : pokT a = true) (hb : pokT b = true) : fS (dbl a) (dbl b) (dbl p) = fS a b p := by
  unfold fS
  rw [turn_dbl ha hb hp, dbl_val (small_pok ha), dbl_val (small_pok hb), dbl_val (small_pok hp)]
  simp only
  have e1 : decide (2 * a.b ≤ 2 * p.b) = decide (a.b ≤ p.b) := decide_eq_decide.2 (by omega)
  have e2 : decide (2 * p.b < 2 * b.b) = decide (p.b < b.b) := decide_eq_decide.2 (by omega)
  have e3 : decide (2 * b.b ≤ 2 * p.b) = decide (b.b ≤ p.b) := decide_eq_decide.2 (by omega)
  have e4 : decide (2 * p.b < 2 * a.b) = decide (p.b < a.b) := decide_eq_decide.2 (by omega)
  have e5 : decide (0 < 4 * turnP a b p) = decide (0 < turnP a b p) := decide_eq_decide.2 (by omega)
  have e6 : decide (4 * turnP a b p < 0) = decide (turnP a b p < 0) := decide_eq_decide.2 (by omega)
  rw [e1, e2, e3, e4, e5, e6]
theorem dbl_at2 {L : List T2} {k : Nat} (hk : k < L.length) : at2 (dblL L) k = dbl (at2 L k) := by
  have hk' : k < (dblL L).length := by simpa [dblL] using hk
  rw [at2_eq _ _ hk', at2_eq _ _ hk]
  simp [dblL]
theorem dblL_len (L : List T2) : (dblL L).length = L.length := by simp [dblL]
theorem dbl_nxt {L : List T2} {k : Nat} (hk : k < L.length) : nxt (dblL L) k = dbl (nxt L k) := by
  unfold nxt
  rw [dblL_len, dbl_at2 (nx_lt hk)]
theorem pok_nxt {L : List T2} (hr : RoomP L) {k : Nat} (hk : k < L.length) : pokT (nxt L k) = true := hr.pok _ (nx_lt hk)
theorem holds_dbl {L : List T2} (hr : RoomP L) {p : T2} (hp : pokT p = true) : holdsS (dblL L) (dbl p) = holdsS L p := by
  unfold holdsS offW
  rw [dblL_len]
  have h1 : allN L.length (fun i => !onAt (dblL L) (dbl p) i) = allN L.length fun i => !onAt L p i := allN_congr fun i hi => by
    unfold onAt; rw [dbl_at2 hi, dbl_nxt hi, on_dbl hp (hr.pok i hi) (pok_nxt hr hi)]
  have h2 : parN (flipS (dblL L) (dbl p)) L.length = parN (flipS L p) L.length := parN_congr _ fun i hi => by
    unfold flipS; rw [dbl_at2 hi, dbl_nxt hi, fS_dbl hp (hr.pok i hi) (pok_nxt hr hi)]
  rw [h1, h2]
theorem sees_self {L : List T2} (hr : RoomP L) {p : T2} (hp : pokT p = true) (h : placeI L p ≠ 0) : seesS L p p = true := by
  have hs := small_pok hp
  unfold seesS
  rw [Bool.and_eq_true]
  constructor
  · unfold noCross
    rw [allN_iff]
    intro k hk
    unfold crossP
    rw [turnP_aab, turnP_aab, oppo_zero]
    rfl
  · have hc : cutsL L p p L.length = [p, p] := by
      unfold cutsL
      have : (List.range L.length).filter (cutF L p p) = [] := by
        rw [List.filter_eq_nil_iff]
        intro i hi hf
        have hi' : i < L.length := by simpa using hi
        obtain ⟨h1, _, h3⟩ := cutF_spec hf
        rw [onP_small (hr.small i hi') hs hs] at h3
        refine h1 ?_
        have := h3.2
        unfold inBox at this
        cases hx : at2 L i
        cases p
        rw [hx] at this
        simp only [T2.mk.injEq] at *
        omega
      rw [this]; rfl
    rw [hc]
    have hm : midP p p = dbl p := by
      unfold midP dbl
      rw [show p.a + p.a = 2 * p.a by omega, show p.b + p.b = 2 * p.b by omega]
    have h0 : ¬ holdsS L p < 0 := by
      have := place_holds (L := L) (p := p) (fun j hj => hr.small j hj) hs
      have h2 := holds_range L p
      omega
    unfold pairsC
    rw [allN_iff]
    intro i hi
    rw [allN_iff]
    intro k hk
    have hi' : i < 2 := hi
    obtain rfl : i = 1 := by omega
    obtain rfl : k = 0 := by omega
    unfold pairC
    rw [show at2 [p, p] 1 = p from rfl, show at2 [p, p] 0 = p from rfl, hm, holds_dbl hr hp, decide_eq_false h0, Bool.and_false]
    rfl
theorem place_corner {L : List T2} (hr : RoomP L) {k : Nat} (hk : k < L.length) : placeI L (at2 L k) = 1 := by
  unfold placeI
  have : offW L (at2 L k) = false := by
    unfold offW
    refine allN_false hk ?_
    unfold onAt
    have := (onP_small (p := at2 L k) (a := at2 L k) (b := nxt L k) (hr.small k hk) (hr.small k hk) (hr.small _ (nx_lt hk))).2 ⟨turnZ_a _ _, inBox_a _ _⟩
    rw [this]; rfl
  rw [this]; rfl
end Go.Proofs.Ytkifapcegiajiaa
