/- Plain law: sight of the program is sight of the reference, in a valid room. No condition. -/
import Derived.Test.YtkifapcegiajiaaSort
import Derived.Test.YtkifapcegiajiaaMid
namespace Go.Proofs.Ytkifapcegiajiaa
open Go.RowKit
set_option linter.unusedVariables false

theorem cuts_mem {L : List T2} {a b c : T2} {k : Nat} (h : c ∈ cutsL L a b k) : c = a ∨ c = b ∨ ∃ i, i < k ∧ c = at2 L i ∧ cutF L a b i = true := by
  unfold cutsL at h
  simp only [List.mem_cons, List.mem_map, List.mem_filter, List.mem_range] at h
  rcases h with h | h | ⟨i, ⟨h1, h2⟩, h3⟩
  · exact .inl h
  · exact .inr (.inl h)
  · exact .inr (.inr ⟨i, h1, h3.symm, h2⟩)
theorem cutF_spec {L : List T2} {a b : T2} {i : Nat} (h : cutF L a b i = true) : at2 L i ≠ a ∧ at2 L i ≠ b ∧ onP (at2 L i) a b = true := by
  unfold cutF at h
  simp only [Bool.and_eq_true, Bool.not_eq_true'] at h
  refine ⟨fun e => ?_, fun e => ?_, h.2⟩
  · have := h.1.1; rw [eqP_iff.2 e] at this; cases this
  · have := h.1.2; rw [eqP_iff.2 e] at this; cases this
theorem turnZ_a (a b : T2) : turnZ a b a = 0 := by unfold turnZ; rw [Int.sub_self, Int.sub_self, Int.mul_zero, Int.mul_zero]; rfl
theorem turnZ_b (a b : T2) : turnZ a b b = 0 := by unfold turnZ; rw [Int.mul_comm (b.a - a.a)]; omega
theorem inBox_a (a b : T2) : inBox a a b := by unfold inBox; omega
theorem inBox_b (a b : T2) : inBox b a b := by unfold inBox; omega
theorem cuts_spec {L : List T2} (hr : RoomP L) {a b c : T2} (ha : small a) (hb : small b) (h : c ∈ cutsL L a b L.length) : small c ∧ turnZ a b c = 0 ∧ inBox c a b := by
  rcases cuts_mem h with rfl | rfl | ⟨i, hi, rfl, hc⟩
  · exact ⟨ha, turnZ_a _ _, inBox_a _ _⟩
  · exact ⟨hb, turnZ_b _ _, inBox_b _ _⟩
  · have := (cutF_spec hc).2.2
    rw [onP_small (hr.small i hi) ha hb] at this
    exact ⟨hr.small i hi, this⟩
theorem key_dW {a p q : T2} (ha : small a) (hp : small p) (hq : small q) : decide (dW a p q < 0) = decide (squareZ a p < squareZ a q) := by
  have h1 := square_small ha hp
  have h2 := square_small ha hq
  unfold dW
  rw [h1.1, h2.1, IntWalk.wrap64_in _ (by omega)]
  exact decide_eq_decide.2 (by omega)
theorem cuts_nodup {L : List T2} (hr : RoomP L) {a b : T2} (hab : a ≠ b) (ha : small a) (hb : small b) : (cutsL L a b L.length).Pairwise fun x y => tt a b x ≠ tt a b y := by
  have hinj : ∀ x ∈ cutsL L a b L.length, ∀ y ∈ cutsL L a b L.length, x ≠ y → tt a b x ≠ tt a b y := fun x hx y hy hne e =>
    hne (tt_inj hab (cuts_spec hr ha hb hx).2.1 (cuts_spec hr ha hb hy).2.1 e)
  have hnd : (cutsL L a b L.length).Pairwise fun x y => x ≠ y := by
    unfold cutsL
    refine List.pairwise_cons.2 ⟨fun y hy => ?_, List.pairwise_cons.2 ⟨fun y hy => ?_, ?_⟩⟩
    · rcases List.mem_cons.1 hy with rfl | hy
      · exact hab
      · simp only [List.mem_map, List.mem_filter, List.mem_range] at hy
        obtain ⟨i, ⟨_, h2⟩, rfl⟩ := hy
        exact fun e => (cutF_spec h2).1 e.symm
    · simp only [List.mem_map, List.mem_filter, List.mem_range] at hy
      obtain ⟨i, ⟨_, h2⟩, rfl⟩ := hy
      exact fun e => (cutF_spec h2).2.1 e.symm
    · rw [List.pairwise_map]
      have hr' : (List.range L.length).Pairwise fun i j => i < j := List.pairwise_lt_range
      refine (List.Pairwise.and_mem.1 (hr'.filter _)).imp ?_
      rintro i j ⟨h1, h2, h3⟩
      have hi : i < L.length := by have := (List.mem_filter.1 h1).1; simpa using this
      have hj : j < L.length := by have := (List.mem_filter.1 h2).1; simpa using this
      exact hr.ne i j hi hj (by omega)
  exact (List.Pairwise.and_mem.1 hnd).imp fun ⟨h1, h2, h3⟩ => hinj _ h1 _ h2 h3
theorem dbl_small {p : T2} (h : pokT p = true) : small (dbl p) := by
  unfold pokT at h; rw [pok_iff] at h
  unfold dbl small
  simp only
  rw [IntWalk.wrap64_in _ (by omega), IntWalk.wrap64_in _ (by omega)]; omega
theorem mid_small {p q : T2} (hp : pokT p = true) (hq : pokT q = true) : small (midP p q) := by
  unfold pokT at hp hq; rw [pok_iff] at hp hq
  unfold midP small
  simp only
  rw [IntWalk.wrap64_in _ (by omega), IntWalk.wrap64_in _ (by omega)]; omega
theorem dblL_small {L : List T2} (hr : RoomP L) (j : Nat) (hj : j < (dblL L).length) : small (at2 (dblL L) j) := by
  have hj' : j < L.length := by simpa [dblL] using hj
  rw [at2_eq _ _ hj]
  have : (dblL L)[j] = dbl (at2 L j) := by
    have := dblL_at hj'; rw [List.getElem?_eq_getElem hj] at this; injection this
  rw [this]; exact dbl_small (hr.pok j hj')
/-- The middle of two cuts is not outside. -/
def okMid (L : List T2) (p q : T2) : Prop := placeI (dblL L) (midP p q) ≠ 0
theorem okMid_symm {L : List T2} {p q : T2} (h : okMid L p q) : okMid L q p := by unfold okMid; rw [midP_symm]; exact h
theorem cuts_pok {L : List T2} (hr : RoomP L) {a b c : T2} (ha : pokT a = true) (hb : pokT b = true) (h : c ∈ cutsL L a b L.length) : pokT c = true := by
  rcases cuts_mem h with rfl | rfl | ⟨i, hi, rfl, _⟩
  · exact ha
  · exact hb
  · exact hr.pok i hi
theorem hold_mid {L : List T2} (hr : RoomP L) {p q : T2} (hp : pokT p = true) (hq : pokT q = true) : decide (holdsS (dblL L) (midP p q) < 0) = false ↔ okMid L p q := by
  have := place_holds (p := midP p q) (dblL_small hr) (mid_small hp hq)
  have h2 := holds_range (dblL L) (midP p q)
  unfold okMid
  rw [decide_eq_false_iff_not]
  omega
theorem steps_iff {L ws : List T2} : stepsI L ws = true ↔ ∀ i (h : i + 1 < ws.length), okMid L ws[i] ws[i + 1] := by
  unfold stepsI
  rw [allN_iff]
  constructor
  · intro h i hi
    have := h i (by omega)
    unfold okMid
    rw [at2_eq _ _ (by omega), at2_eq _ _ (by omega)] at this
    simpa using this
  · intro h i hi
    have := h i (by omega)
    unfold okMid at this
    rw [at2_eq _ _ (by omega), at2_eq _ _ (by omega)]
    simpa using this
theorem free_iff {L : List T2} (hr : RoomP L) {a b : T2} (hab : a ≠ b) (ha : small a) (hb : small b) {i k : Nat} (hi : i < (cutsL L a b L.length).length) (hk : k < (cutsL L a b L.length).length) :
    freeN (cutsL L a b L.length) i k = true ↔ ∀ j (hj : j < (cutsL L a b L.length).length), j ≠ i → j ≠ k → ¬ (min (tt a b (cutsL L a b L.length)[i]) (tt a b (cutsL L a b L.length)[k]) ≤ tt a b (cutsL L a b L.length)[j] ∧ tt a b (cutsL L a b L.length)[j] ≤ max (tt a b (cutsL L a b L.length)[i]) (tt a b (cutsL L a b L.length)[k])) := by
  unfold freeN
  rw [allN_iff]
  have hon : ∀ j (hj : j < (cutsL L a b L.length).length), onP (at2 (cutsL L a b L.length) j) (at2 (cutsL L a b L.length) i) (at2 (cutsL L a b L.length) k) = true ↔ (min (tt a b (cutsL L a b L.length)[i]) (tt a b (cutsL L a b L.length)[k]) ≤ tt a b (cutsL L a b L.length)[j] ∧ tt a b (cutsL L a b L.length)[j] ≤ max (tt a b (cutsL L a b L.length)[i]) (tt a b (cutsL L a b L.length)[k])) := by
    intro j hj
    rw [at2_eq _ _ hj, at2_eq _ _ hi, at2_eq _ _ hk]
    have cj := cuts_spec hr ha hb (List.getElem_mem hj)
    have ci := cuts_spec hr ha hb (List.getElem_mem hi)
    have ck := cuts_spec hr ha hb (List.getElem_mem hk)
    rw [onP_small cj.1 ci.1 ck.1, ← box_tt hab cj.2.1 ci.2.1 ck.2.1]
    exact ⟨fun h => h.2, fun h => ⟨col_zero hab cj.2.1 ci.2.1 ck.2.1, h⟩⟩
  constructor
  · intro h j hj h1 h2 h3
    have := h j hj
    rw [beq_eq_false_iff_ne.2 h1, beq_eq_false_iff_ne.2 h2, (hon j hj).2 h3] at this
    cases this
  · intro h j hj
    by_cases h1 : j = i
    · rw [beq_iff_eq.2 h1]; rfl
    by_cases h2 : j = k
    · rw [beq_iff_eq.2 h2]; simp
    have := h j hj h1 h2
    rw [← hon j hj] at this
    rw [Bool.not_eq_true] at this
    rw [this]; simp
/-- The steps along the cuts in order of distance are as good as the pairs of cuts without another one between. -/
theorem steps_pairs {L : List T2} (hr : RoomP L) {a b : T2} (ha : pokT a = true) (hb : pokT b = true) {ws : List T2} (hp : ws.Perm (cutsL L a b L.length)) (hs : SortK (squareZ a) ws ws.length) : stepsI L ws = pairsC L (cutsL L a b L.length) := by
  rw [Bool.eq_iff_iff, steps_iff]
  unfold pairsC
  rw [allN_iff]
  by_cases hab : a = b
  · subst hab
    have hc : cutsL L a a L.length = [a, a] := by
      unfold cutsL
      have : (List.range L.length).filter (cutF L a a) = [] := by
        rw [List.filter_eq_nil_iff]
        intro i hi hc
        have hi' : i < L.length := by simpa using hi
        have h1 := cutF_spec hc
        have := h1.2.2
        rw [onP_small (hr.small i hi') (small_pok ha) (small_pok ha)] at this
        refine h1.1 ?_
        have hb := this.2
        unfold inBox at hb
        have e1 : (at2 L i).a = a.a := by omega
        have e2 : (at2 L i).b = a.b := by omega
        exact eqP_iff.1 (by unfold eqP; rw [e1, e2]; simp)
      rw [this]; rfl
    rw [hc] at hp ⊢
    have hw : ws = [a, a] := by
      have := List.perm_replicate (n := 2) (a := a) |>.1 hp
      exact this
    subst hw
    constructor
    · intro h i hi
      rw [allN_iff]
      intro k hk
      have h0 := h 0 (by simp)
      have hi2 : i < 2 := by simpa using hi
      have : i = 1 ∧ k = 0 := by omega
      obtain ⟨rfl, rfl⟩ := this
      unfold pairC
      rw [show decide (holdsS (dblL L) (midP (at2 [a, a] 1) (at2 [a, a] 0)) < 0) = false from (hold_mid hr ha ha).2 h0]
      simp
    · intro h i hi
      have hi0 : i = 0 := by simp at hi; omega
      subst hi0
      have h1 := h 1 (by simp)
      rw [allN_iff] at h1
      have h2 := h1 0 (by omega)
      unfold pairC at h2
      have hf : freeN [a, a] 1 0 = true := by unfold freeN; simp [allN, List.range, List.range.loop]
      rw [hf, Bool.true_and] at h2
      change (!decide (holdsS (dblL L) (midP a a) < 0)) = true at h2
      refine (hold_mid hr ha ha).1 ?_
      simpa using h2
  · have ha' := small_pok ha
    have hb' := small_pok hb
    have hwl := hp.length_eq
    have hsort : ws.Pairwise fun x y => tt a b x ≤ tt a b y := by
      rw [List.pairwise_iff_getElem]
      intro i j hi hj hij
      have := hs i j hij hj
      rw [at2_eq _ _ hi, at2_eq _ _ hj] at this
      have mi := cuts_spec hr ha' hb' (hp.mem_iff.1 (List.getElem_mem hi))
      have mj := cuts_spec hr ha' hb' (hp.mem_iff.1 (List.getElem_mem hj))
      exact tt_of_sq hab mi.2.1 mj.2.1 mj.2.2 this
    rw [adj_free (tt a b) (okMid L) (fun x y h => okMid_symm h) hp (cuts_nodup hr hab ha' hb') hsort]
    constructor
    · intro h i hi
      rw [allN_iff]
      intro k hk
      unfold pairC
      cases hf : freeN (cutsL L a b L.length) i k
      · rfl
      · have hm := h i k hi hk ((free_iff hr hab ha' hb' hi (by omega)).1 hf)
        have pi := cuts_pok hr ha hb (List.getElem_mem hi)
        have pk := cuts_pok hr ha hb (List.getElem_mem (show k < (cutsL L a b L.length).length by omega))
        rw [at2_eq _ _ hi, at2_eq _ _ (show k < (cutsL L a b L.length).length by omega), (hold_mid hr pi pk).2 hm]; rfl
    · intro h i k hi hk hf
      have h1 := h i hi
      rw [allN_iff] at h1
      have h2 := h1 k hk
      unfold pairC at h2
      rw [(free_iff hr hab ha' hb' hi (by omega)).2 hf, Bool.true_and] at h2
      have pi := cuts_pok hr ha hb (List.getElem_mem hi)
      have pk := cuts_pok hr ha hb (List.getElem_mem (show k < (cutsL L a b L.length).length by omega))
      refine (hold_mid hr pi pk).1 ?_
      rw [at2_eq _ _ hi, at2_eq _ _ (show k < (cutsL L a b L.length).length by omega)] at h2
      simpa using h2
end Go.Proofs.Ytkifapcegiajiaa
