/-
  As XHer4, with a tree for a script: where two operations may come up, both ways are walked to the end. Condition: a Bool on the statement's text, by the kernel.
-/
import Derived.Test.YtnjmhdlcmbpfpaaHer4
namespace Go.Proofs.Ytnjmhdlcmbpfpaa
open Go.RowKit
set_option linter.unusedVariables false

section
variable {P : Program} {ops : Array Oper} {md : Region.Mode} {R : World → World → Prop}

inductive Tr
  | nil
  | q (i : Nat) (r : Tr)
  | u (i : Nat) (r : Tr)
  | b (i j : Nat) (r s : Tr)
inductive TrO
  | nil
  | q (o : Oper) (r : TrO)
  | u (o : Oper) (r : TrO)
  | b (o o' : Oper) (r s : TrO)
def pickT (l : List Oper) : Tr → TrO
  | .nil => .nil
  | .q i r => match l[i]? with
    | some o => .q o (pickT l r)
    | none => .nil
  | .u i r => match l[i]? with
    | some o => .u o (pickT l r)
    | none => .nil
  | .b i j r s => match l[i]?, l[j]? with
    | some o, some o' => .b o o' (pickT l r) (pickT l s)
    | _, _ => .nil
def cntT : Tr → Nat
  | .nil => 0
  | .q _ r => cntT r + 1
  | .u _ r => cntT r + 1
  | .b _ _ r _ => cntT r + 1
def okT (md : Region.Mode) (ops : Array Oper) : Tr → Array Bool → Bool
  | .nil, listed => (Region.ready md ops listed).isEmpty
  | .q i r, listed => (Region.ready md ops listed).contains i && Region.free md ops listed i && okT md ops r (listed.setIfInBounds i true)
  | .u i r, listed => decide (Region.ready md ops listed = [i]) && okT md ops r (listed.setIfInBounds i true)
  | .b i j r s, listed => decide (Region.ready md ops listed = [i, j]) && (decide (cntT s = cntT r) && (okT md ops r (listed.setIfInBounds i true) && okT md ops s (listed.setIfInBounds j true)))
def wpW (P : Program) (ops : Array Oper) (R : World → World → Prop) (w1 : World) (Q : Act → World → Prop) : TrO → Act → World → Prop
  | .nil, a, w => Q a w
  | .q o r, a, w => if Region.wanted o (yielded ops a.tmps) then qX P o a w1 (fun a' => wpW P ops R w1 Q r a' w) else wpW P ops R w1 Q r (a.put o.dst undef) w
  | .u o r, a, w => stepH P ops R o (wpW P ops R w1 Q r) a w
  | .b o o' r s, a, w => stepH P ops R o (wpW P ops R w1 Q r) a w ∧ stepH P ops R o' (wpW P ops R w1 Q s) a w
theorem wpW_script {l : List Oper} {w1 : World} {Q : Act → World → Prop} (hs : Region.noSelect l.toArray = true) : ∀ (sc : Tr) (listed : Array Bool) (a : Act) (w : World), Below w1.heap.size w1 w →
    okT md l.toArray sc listed = true → wpW P l.toArray (Below w1.heap.size) w1 Q (pickT l sc) a w → wpX P md l.toArray (Below w1.heap.size) Q (cntT sc) listed a w
  | .nil, listed, a, w, hb, hB, h => ⟨by simpa [okT] using hB, h⟩
  | .q i r, listed, a, w, hb, hB, h => by
    simp only [okT, Bool.and_eq_true] at hB
    obtain ⟨⟨hr, hf⟩, hB'⟩ := hB
    have hri : i ∈ Region.ready md l.toArray listed := by simpa using hr
    obtain ⟨_, o, ho, _⟩ := mem_ready.1 hri
    have hol : l[i]? = some o := by simpa using ho
    simp only [pickT, hol] at h
    unfold wpW at h
    show wpX P md l.toArray (Below w1.heap.size) Q (cntT r + 1) listed a w
    by_cases hw : Region.wanted o (yielded l.toArray a.tmps) = true
    · rw [if_pos hw] at h
      obtain ⟨v, hv, hK⟩ := h
      exact wpX_first (below_steady _) ho (Region.noSelect_spec hs) (cntT r) listed a w (Region.free_spec ho hf) hri (.inl ⟨hw, fun w0 h0 => hv w0 (Ext.ex (hb.trans h0))⟩) (wpW_script hs r _ _ w hb hB' hK)
    · rw [if_neg hw] at h
      exact wpX_first (below_steady _) ho (Region.noSelect_spec hs) (cntT r) listed a w (Region.free_spec ho hf) hri (.inr ⟨by simpa using hw, rfl⟩) (wpW_script hs r _ _ w hb hB' h)
  | .u i r, listed, a, w, hb, hB, h => by
    simp only [okT, Bool.and_eq_true, decide_eq_true_eq] at hB
    have hri : i ∈ Region.ready md l.toArray listed := by rw [hB.1]; simp
    obtain ⟨_, o, ho, _⟩ := mem_ready.1 hri
    have hol : l[i]? = some o := by simpa using ho
    simp only [pickT, hol] at h
    unfold wpW at h
    show wpX P md l.toArray (Below w1.heap.size) Q (cntT r + 1) listed a w
    refine And.intro (fun h0 => by rw [hB.1] at h0; cases h0) (fun j hj => ?_)
    rw [hB.1] at hj
    obtain rfl : j = i := by simpa using hj
    exact stepH_at (below_steady _) ho (fun a'' w'' hR hk => wpW_script hs r _ _ _ (hb.trans hR) hB.2 hk) h
  | .b i j r s, listed, a, w, hb, hB, h => by
    simp only [okT, Bool.and_eq_true, decide_eq_true_eq] at hB
    obtain ⟨h1, h2, h3, h4⟩ := hB
    have hri : i ∈ Region.ready md l.toArray listed := by rw [h1]; simp
    have hrj : j ∈ Region.ready md l.toArray listed := by rw [h1]; simp
    obtain ⟨_, o, ho, _⟩ := mem_ready.1 hri
    obtain ⟨_, o', ho', _⟩ := mem_ready.1 hrj
    have hol : l[i]? = some o := by simpa using ho
    have hol' : l[j]? = some o' := by simpa using ho'
    simp only [pickT, hol, hol'] at h
    unfold wpW at h
    show wpX P md l.toArray (Below w1.heap.size) Q (cntT r + 1) listed a w
    refine And.intro (fun h0 => by rw [h1] at h0; cases h0) (fun q hq => ?_)
    rw [h1] at hq
    by_cases hqi : q = i
    · subst hqi
      exact stepH_at (below_steady _) ho (fun a'' w'' hR hk => wpW_script hs r _ _ _ (hb.trans hR) h3 hk) h.1
    · obtain rfl : q = j := by
        rcases (show q = i ∨ q = j by simpa using hq) with h5 | h5
        · exact absurd h5 hqi
        · exact h5
      refine stepH_at (below_steady _) ho' (fun a'' w'' hR hk => ?_) h.2
      have := wpW_script hs s _ _ _ (hb.trans hR) h4 hk
      rw [h2] at this
      exact this
theorem wp_region_t {id : Nat} {Q : Exit → Act → World → Prop} {a : Act} {w : World} {l : List Oper} (sc : Tr) (hm : P.follows .mixedOrders = true)
    (hB : (Region.noSelect l.toArray && decide (cntT sc = l.length) && okT .any l.toArray sc (Array.replicate l.length false)) = true)
    (h : ∀ w1, Ext w w1 → wpW P l.toArray (Below w1.heap.size) w1 (fun a'' w'' => Q .normal a'' w'') (pickT l sc) a w1) : (Code.region id l.toArray true).wp P Q a w := by
  simp only [Bool.and_eq_true, decide_eq_true_eq] at hB
  obtain ⟨⟨h1, h2⟩, h3⟩ := hB
  refine wp_region_any hm ?_
  have h4 := wpW_script (md := .any) (w1 := w.drew) h1 sc (Array.replicate l.length false) a w.drew (Below.refl _ _) h3 (h w.drew (Below.drew (Below.refl _ _)))
  rw [h2] at h4
  simpa using wpAny_of_X (fun a w h => h) _ _ _ _ h4
theorem wpW_nil {w1 : World} {Q : Act → World → Prop} {a : Act} {w : World} (h : Q a w) : wpW P ops R w1 Q .nil a w := h
theorem wpW_q {w1 : World} {Q : Act → World → Prop} {a : Act} {w : World} {o : Oper} {r : TrO}
    (h : ∀ K : Act → Prop, (∀ a, wpW P ops R w1 Q r a w → K a) → if Region.wanted o (yielded ops a.tmps) then qX P o a w1 K else K (a.put o.dst undef)) : wpW P ops R w1 Q (.q o r) a w :=
  h _ (fun _ h => h)
theorem wpW_u {w1 : World} {Q : Act → World → Prop} {a : Act} {w : World} {o : Oper} {r : TrO} (h : stepH P ops R o (wpW P ops R w1 Q r) a w) : wpW P ops R w1 Q (.u o r) a w := h
theorem wpW_b {w1 : World} {Q : Act → World → Prop} {a : Act} {w : World} {o o' : Oper} {r s : TrO} (h : stepH P ops R o (wpW P ops R w1 Q r) a w) (h' : stepH P ops R o' (wpW P ops R w1 Q s) a w) : wpW P ops R w1 Q (.b o o' r s) a w := ⟨h, h'⟩
end
end Go.Proofs.Ytnjmhdlcmbpfpaa
