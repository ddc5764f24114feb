/-
  As XHer5, for a statement whose last operation may also write what its other operations read. Condition: a Bool on the statement's text, by the kernel: the last operation waits for all others.
-/
import Derived.Test.YtkifapcegiajiaaHer5
namespace Go.Proofs.Ytkifapcegiajiaa
open Go.RowKit
set_option linter.unusedVariables false

section
variable {P : Program} {ops : Array Oper} {md : Region.Mode} {R : World → World → Prop} {z : Nat}

def wpL (P : Program) (md : Region.Mode) (ops : Array Oper) (R : World → World → Prop) (z : Nat) (Q : Act → World → Prop) : Nat → Array Bool → Act → World → Prop
  | 0, listed, a, w => Region.ready md ops listed = [] ∧ Q a w
  | fuel + 1, listed, a, w => (Region.ready md ops listed = [] → Q a w) ∧
      ∀ i ∈ Region.ready md ops listed, herAt P ops i (fun a'' w'' => (i = z ∨ R w w'') ∧ wpL P md ops R z Q fuel (listed.setIfInBounds i true) a'' w'') a w
theorem wpAny_of_L {Q : Act → World → Prop} {Q' : Exit → Act → World → Prop} (hQ : ∀ a w, Q a w → Q' .normal a w) : ∀ (fuel : Nat) (listed : Array Bool) (a : Act) (w : World),
    wpL P md ops R z Q fuel listed a w → wpAny P md ops Q' fuel listed a w
  | 0, _, _, w, h => ⟨h.1, hQ _ _ h.2⟩
  | fuel + 1, _, _, w, h => ⟨fun h0 => hQ _ _ (h.1 h0), fun i hi => wpOp_of_herAt (fun a' w' h' => wpAny_of_L hQ fuel _ a' w' h'.2) (h.2 i hi)⟩
/-- The last operation waits for operation i. -/
def waits (md : Region.Mode) (ops : Array Oper) (z i : Nat) : Bool := match ops[z]? with
  | some o => o.after.any fun e => Region.binds md e && (e.on == i)
  | none => false
theorem waits_spec {i : Nat} (h : waits md ops z i = true) {listed : Array Bool} (hz : z ∈ Region.ready md ops listed) (hi : i ∈ Region.ready md ops listed) : False := by
  obtain ⟨_, oz, hoz, hall⟩ := mem_ready.1 hz
  unfold waits at h
  rw [hoz] at h
  simp only [Array.any_eq_true] at h
  obtain ⟨j, hj, he⟩ := h
  simp only [Bool.and_eq_true, beq_iff_eq] at he
  have h1 := hall _ (Array.getElem_mem hj) he.1
  have h0 := (mem_ready.1 hi).1
  rw [he.2] at h1
  rcases Nat.lt_or_ge i listed.size with h' | h'
  · simp [h'] at h0 h1; rw [h0] at h1; cases h1
  · simp [Array.getElem?_eq_none h'] at h1
theorem wpL_first (hR : Steady R) {Q : Act → World → Prop} {i : Nat} {oi : Oper} {v : Value} (hi : ops[i]? = some oi) (hsel : ∀ (j : Nat) (o : Oper) cs b, ops[j]? = some o → o.op ≠ .select cs b) (hwt : waits md ops z i = true) :
    ∀ (fuel : Nat) (listed : Array Bool) (a : Act) (w : World),
      (∀ j oj, ops[j]? = some oj → j ≠ i → listed.getD j true = false → (∀ e ∈ oj.after, Region.binds md e = true → e.on ≠ i) → oi.apart ops oj = true) →
      i ∈ Region.ready md ops listed → YieldsX P ops R w oi v a →
      wpL P md ops R z Q fuel (listed.setIfInBounds i true) (a.put oi.dst v) w → wpL P md ops R z Q (fuel + 1) listed a w := by
  intro fuel
  induction fuel with
  | zero =>
    intro listed a w _ hr hy H
    refine ⟨fun h => (by rw [h] at hr; cases hr), fun j hj => ?_⟩
    by_cases hji : j = i
    · subst hji
      exact herAt_yieldsX hR hi hy ⟨.inr (hR.1 w), H⟩
    · have := ready_mono hj hji
      rw [H.1] at this
      cases this
  | succ fuel ih =>
    intro listed a w hfree hr hy H
    refine ⟨fun h => (by rw [h] at hr; cases hr), fun j hj => ?_⟩
    by_cases hji : j = i
    · subst hji
      exact herAt_yieldsX hR hi hy ⟨.inr (hR.1 w), H⟩
    · have h1 := H.2 j (ready_mono hj hji)
      have hjz : j ≠ z := fun e => by subst e; exact waits_spec hwt hj hr
      obtain ⟨hjun, oj, hoj, hall⟩ := mem_ready.1 hj
      have hnot : ∀ e ∈ oj.after, Region.binds md e = true → e.on ≠ i := fun e he hb heq => by
        have h1 := hall e he hb
        have h0 := (mem_ready.1 hr).1
        rw [heq] at h1
        rcases Nat.lt_or_ge i listed.size with h' | h'
        · simp [h'] at h0 h1; rw [h0] at h1; cases h1
        · simp [Array.getElem?_eq_none h'] at h1
      have hfree' : ∀ k ok, ops[k]? = some ok → k ≠ i → (listed.setIfInBounds j true).getD k true = false →
          (∀ e ∈ ok.after, Region.binds md e = true → e.on ≠ i) → oi.apart ops ok = true := fun k ok hk hki hun hno => by
        refine hfree k ok hk hki ?_ hno
        by_cases hjk : j = k
        · subst hjk; exact hjun
        · rw [Go.getD_set_ne true hjk] at hun; exact hun
      have hap := hfree j oj hoj hji hjun hnot
      have hsi := fun cs b => hsel i oi cs b hi
      have h2 := herAt_putX hoj hap hsi (fun cs b => hsel j oj cs b hoj) hy h1
      refine herAt_mono (fun a' w' h3 => ?_) h2
      have hRj : R w w' := h3.2.1.resolve_left hjz
      refine ⟨.inr hRj, ih (listed.setIfInBounds j true) a' w' hfree' (ready_mono hr (Ne.symm hji)) (h3.1.later hR hRj) ?_⟩
      rw [Array.setIfInBounds_comm _ _ hji]
      exact h3.2.2
def stepL (P : Program) (ops : Array Oper) (o : Oper) (K : Act → World → Prop) (a : Act) (w : World) : Prop :=
  if Region.wanted o (yielded ops a.tmps) then herOp P o a w K else K (a.put o.dst undef) w
def wpE (P : Program) (ops : Array Oper) (R : World → World → Prop) (w1 : World) (oz : Oper) (Q : Act → World → Prop) : List StO → Act → World → Prop
  | [], a, w => stepL P ops oz Q a w
  | .q o :: r, a, w => if Region.wanted o (yielded ops a.tmps) then qR P R o a w1 (fun a' => wpE P ops R w1 oz Q r a' w) else wpE P ops R w1 oz Q r (a.put o.dst undef) w
  | .u o :: r, a, w => stepH P ops R o (wpE P ops R w1 oz Q r) a w
  | .s o o' :: r, a, w => stepH P ops R o (stepH P ops R o' (wpE P ops R w1 oz Q r)) a w ∧ stepH P ops R o' (stepH P ops R o (wpE P ops R w1 oz Q r)) a w
def okE (md : Region.Mode) (ops : Array Oper) (z : Nat) : List Stp → Array Bool → Bool
  | [], listed => decide (Region.ready md ops listed = [z]) && (Region.ready md ops (listed.setIfInBounds z true)).isEmpty
  | .q i :: r, listed => (Region.ready md ops listed).contains i && Region.free md ops listed i && waits md ops z i && okE md ops z r (listed.setIfInBounds i true)
  | .u i :: r, listed => decide (Region.ready md ops listed = [i]) && okE md ops z r (listed.setIfInBounds i true)
  | .s i j :: r, listed => decide (Region.ready md ops listed = [i, j]) && (decide (Region.ready md ops (listed.setIfInBounds i true) = [j]) && (decide (Region.ready md ops (listed.setIfInBounds j true) = [i]) && okE md ops z r ((listed.setIfInBounds i true).setIfInBounds j true)))
theorem stepH_atL {i : Nat} {o : Oper} {K K' : Act → World → Prop} {a : Act} {w : World} (hR : Steady R) (hi : ops[i]? = some o) (hk : ∀ a'' w'', R w w'' → K a'' w'' → K' a'' w'') (h : stepH P ops R o K a w) :
    herAt P ops i (fun a'' w'' => (i = z ∨ R w w'') ∧ K' a'' w'') a w := herAt_mono (fun _ _ h => ⟨.inr h.1, h.2⟩) (stepH_at hR hi hk h)
theorem wpE_script (hR : Steady R) {l : List Oper} {w1 : World} {oz : Oper} {Q : Act → World → Prop} (hs : Region.noSelect l.toArray = true) (hz : l[z]? = some oz) : ∀ (sc : List Stp) (listed : Array Bool) (a : Act) (w : World), R w1 w →
    okE md l.toArray z sc listed = true → wpE P l.toArray R w1 oz Q (pick l sc) a w → wpL P md l.toArray R z Q (cntS sc + 1) listed a w
  | [], listed, a, w, hb, hB, h => by
    simp only [okE, Bool.and_eq_true, decide_eq_true_eq] at hB
    refine ⟨fun h0 => (by rw [hB.1] at h0; cases h0), fun j hj => ?_⟩
    rw [hB.1] at hj
    obtain rfl : j = z := by simpa using hj
    have hK : ∀ (a'' : Act) (w'' : World), Q a'' w'' → (j = j ∨ R w w'') ∧ wpL P md l.toArray R j Q 0 (listed.setIfInBounds j true) a'' w'' := fun a'' w'' hq => ⟨.inl rfl, by simpa using hB.2, hq⟩
    have h' : stepL P l.toArray oz Q a w := h
    unfold stepL at h'
    unfold herAt
    have hz' : l.toArray[j]? = some oz := by simpa using hz
    rw [hz']; dsimp only
    split
    · rename_i hw
      rw [if_pos hw] at h'
      exact herOp_mono (fun a w h => hK _ _ h) h'
    · rename_i hw
      rw [if_neg hw] at h'
      exact hK _ _ h'
  | .q i :: r, listed, a, w, hb, hB, h => by
    simp only [okE, Bool.and_eq_true] at hB
    obtain ⟨⟨⟨hr, hf⟩, hwt⟩, hB'⟩ := hB
    have hri : i ∈ Region.ready md l.toArray listed := by simpa using hr
    obtain ⟨_, o, ho, _⟩ := mem_ready.1 hri
    have hol : l[i]? = some o := by simpa using ho
    simp only [pick, hol] at h
    unfold wpE at h
    show wpL P md l.toArray R z Q (cntS r + 1 + 1) listed a w
    by_cases hw : Region.wanted o (yielded l.toArray a.tmps) = true
    · rw [if_pos hw] at h
      obtain ⟨v, hv, hK⟩ := h
      exact wpL_first (hR) ho (Region.noSelect_spec hs) hwt (cntS r + 1) listed a w (Region.free_spec ho hf) hri (.inl ⟨hw, fun w0 h0 => hv w0 (hR.2 _ _ _ hb h0)⟩) (wpE_script hR hs hz r _ _ w hb hB' hK)
    · rw [if_neg hw] at h
      exact wpL_first (hR) ho (Region.noSelect_spec hs) hwt (cntS r + 1) listed a w (Region.free_spec ho hf) hri (.inr ⟨by simpa using hw, rfl⟩) (wpE_script hR hs hz r _ _ w hb hB' h)
  | .u i :: r, listed, a, w, hb, hB, h => by
    simp only [okE, Bool.and_eq_true, decide_eq_true_eq] at hB
    have hri : i ∈ Region.ready md l.toArray listed := by rw [hB.1]; simp
    obtain ⟨_, o, ho, _⟩ := mem_ready.1 hri
    have hol : l[i]? = some o := by simpa using ho
    simp only [pick, hol] at h
    unfold wpE at h
    show wpL P md l.toArray R z Q (cntS r + 1 + 1) listed a w
    refine And.intro (fun h0 => by rw [hB.1] at h0; cases h0) (fun j hj => ?_)
    rw [hB.1] at hj
    obtain rfl : j = i := by simpa using hj
    exact stepH_atL (hR) ho (fun a'' w'' hr1 hk => wpE_script hR hs hz r _ _ _ (hR.2 _ _ _ hb hr1) hB.2 hk) h
  | .s i j :: r, listed, a, w, hb, hB, h => by
    simp only [okE, Bool.and_eq_true, decide_eq_true_eq] at hB
    obtain ⟨h1, h2, h3, h4⟩ := hB
    have hri : i ∈ Region.ready md l.toArray listed := by rw [h1]; simp
    have hrj : j ∈ Region.ready md l.toArray listed := by rw [h1]; simp
    obtain ⟨_, o, ho, _⟩ := mem_ready.1 hri
    obtain ⟨_, o', ho', _⟩ := mem_ready.1 hrj
    have hol : l[i]? = some o := by simpa using ho
    have hol' : l[j]? = some o' := by simpa using ho'
    simp only [pick, hol, hol'] at h
    unfold wpE at h
    show wpL P md l.toArray R z Q (cntS r + 1 + 1 + 1) listed a w
    refine And.intro (fun h0 => by rw [h1] at h0; cases h0) (fun q hq => ?_)
    rw [h1] at hq
    by_cases hqi : q = i
    · subst hqi
      refine stepH_atL (hR) ho (fun a'' w'' hr1 hk => ?_) h.1
      refine And.intro (fun h0 => by rw [h2] at h0; cases h0) (fun p hp => ?_)
      rw [h2] at hp
      obtain rfl : p = j := by simpa using hp
      exact stepH_atL (hR) ho' (fun a3 w3 hR3 hk3 => wpE_script hR hs hz r _ _ _ (hR.2 _ _ _ hb (hR.2 _ _ _ hr1 hR3)) h4 hk3) hk
    · obtain rfl : q = j := by
        rcases (show q = i ∨ q = j by simpa using hq) with h5 | h5
        · exact absurd h5 hqi
        · exact h5
      refine stepH_atL (hR) ho' (fun a'' w'' hr1 hk => ?_) h.2
      refine And.intro (fun h0 => by rw [h3] at h0; cases h0) (fun p hp => ?_)
      rw [h3] at hp
      obtain rfl : p = i := by simpa using hp
      exact stepH_atL (hR) ho (fun a3 w3 hR3 hk3 => wpE_script hR hs hz r _ _ _ (hR.2 _ _ _ hb (hR.2 _ _ _ hr1 hR3)) (by rw [Array.setIfInBounds_comm _ _ hqi]; exact h4) hk3) hk
theorem wp_region_e (R : World → World → Prop) (hR : Steady R) {id : Nat} {Q : Exit → Act → World → Prop} {a : Act} {w : World} {l : List Oper} (sc : List Stp) (z : Nat) (oz : Oper) (hz : l[z]? = some oz) (hm : P.follows .mixedOrders = true)
    (hB : (Region.noSelect l.toArray && decide (cntS sc + 1 = l.length) && okE .any l.toArray z sc (Array.replicate l.length false)) = true)
    (h : ∀ w1, Ext w w1 → wpE P l.toArray R w1 oz (fun a'' w'' => Q .normal a'' w'') (pick l sc) a w1) : (Code.region id l.toArray true).wp P Q a w := by
  simp only [Bool.and_eq_true, decide_eq_true_eq] at hB
  obtain ⟨⟨h1, h2⟩, h3⟩ := hB
  refine wp_region_any hm ?_
  have h4 := wpE_script (md := .any) (w1 := w.drew) hR h1 hz sc (Array.replicate l.length false) a w.drew (hR.1 _) h3 (h w.drew (Below.drew (Below.refl _ _)))
  rw [h2] at h4
  simpa using wpAny_of_L (fun a w h => h) _ _ _ _ h4
theorem wpE_nil {w1 : World} {oz : Oper} {Q : Act → World → Prop} {a : Act} {w : World} (h : ∀ K : Act → World → Prop, (∀ a w, Q a w → K a w) → if Region.wanted oz (yielded ops a.tmps) then herOp P oz a w K else K (a.put oz.dst undef) w) : wpE P ops R w1 oz Q [] a w := h _ (fun _ _ h => h)
theorem wpE_q {w1 : World} {oz : Oper} {Q : Act → World → Prop} {a : Act} {w : World} {o : Oper} {r : List StO}
    (h : ∀ K : Act → Prop, (∀ a, wpE P ops R w1 oz Q r a w → K a) → if Region.wanted o (yielded ops a.tmps) then qR P R o a w1 K else K (a.put o.dst undef)) : wpE P ops R w1 oz Q (.q o :: r) a w :=
  h _ (fun _ h => h)
theorem wpE_u {w1 : World} {oz : Oper} {Q : Act → World → Prop} {a : Act} {w : World} {o : Oper} {r : List StO} (h : stepH P ops R o (wpE P ops R w1 oz Q r) a w) : wpE P ops R w1 oz Q (.u o :: r) a w := h
theorem wpE_s {w1 : World} {oz : Oper} {Q : Act → World → Prop} {a : Act} {w : World} {o o' : Oper} {r : List StO} (h : stepH P ops R o (stepH P ops R o' (wpE P ops R w1 oz Q r)) a w) (h' : stepH P ops R o' (stepH P ops R o (wpE P ops R w1 oz Q r)) a w) : wpE P ops R w1 oz Q (.s o o' :: r) a w := ⟨h, h'⟩
end
end Go.Proofs.Ytkifapcegiajiaa
