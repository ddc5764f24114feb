/-
  As XHer4, for a statement whose calls and stores may also write two blocks that were there before. Condition: a Bool on the statement's text, by the kernel.
-/
import Derived.Test.YtkifapcegiajiaaHer4
namespace Go.Proofs.Ytkifapcegiajiaa
open Go.RowKit
set_option linter.unusedVariables false

section
variable {P : Program} {ops : Array Oper} {md : Region.Mode} {R : World → World → Prop}

def qR (P : Program) (R : World → World → Prop) (o : Oper) (a : Act) (w : World) (K : Act → Prop) : Prop := ∃ v, (∀ w0, R w w0 → o.quietAt P a (fun y => y = w0) w0 v) ∧ K (a.put o.dst v)
/-- The operations one behind the other, as the script says. -/
def wpR (P : Program) (ops : Array Oper) (R : World → World → Prop) (w1 : World) (Q : Act → World → Prop) : List StO → Act → World → Prop
  | [], a, w => Q a w
  | .q o :: r, a, w => if Region.wanted o (yielded ops a.tmps) then qR P R o a w1 (fun a' => wpR P ops R w1 Q r a' w) else wpR P ops R w1 Q r (a.put o.dst undef) w
  | .u o :: r, a, w => stepH P ops R o (wpR P ops R w1 Q r) a w
  | .s o o' :: r, a, w => stepH P ops R o (stepH P ops R o' (wpR P ops R w1 Q r)) a w ∧ stepH P ops R o' (stepH P ops R o (wpR P ops R w1 Q r)) a w
theorem wpR_script (hR : Steady R) {l : List Oper} {w1 : World} {Q : Act → World → Prop} (hs : Region.noSelect l.toArray = true) : ∀ (sc : List Stp) (listed : Array Bool) (a : Act) (w : World), R w1 w →
    okB md l.toArray sc listed = true → wpR P l.toArray R w1 Q (pick l sc) a w → wpX P md l.toArray R Q (cntS sc) listed a w
  | [], listed, a, w, hb, hB, h => ⟨by simpa [okB] using hB, h⟩
  | .q i :: r, listed, a, w, hb, hB, h => by
    simp only [okB, Bool.and_eq_true] at hB
    obtain ⟨⟨hr, hf⟩, hB'⟩ := hB
    have hri : i ∈ Region.ready md l.toArray listed := by simpa using hr
    obtain ⟨_, o, ho, _⟩ := mem_ready.1 hri
    have hol : l[i]? = some o := by simpa using ho
    simp only [pick, hol] at h
    unfold wpR at h
    show wpX P md l.toArray R Q (cntS r + 1) listed a w
    by_cases hw : Region.wanted o (yielded l.toArray a.tmps) = true
    · rw [if_pos hw] at h
      obtain ⟨v, hv, hK⟩ := h
      exact wpX_first (hR) ho (Region.noSelect_spec hs) (cntS r) listed a w (Region.free_spec ho hf) hri (.inl ⟨hw, fun w0 h0 => hv w0 (hR.2 _ _ _ hb h0)⟩) (wpR_script hR hs r _ _ w hb hB' hK)
    · rw [if_neg hw] at h
      exact wpX_first (hR) ho (Region.noSelect_spec hs) (cntS r) listed a w (Region.free_spec ho hf) hri (.inr ⟨by simpa using hw, rfl⟩) (wpR_script hR hs r _ _ w hb hB' h)
  | .u i :: r, listed, a, w, hb, hB, h => by
    simp only [okB, Bool.and_eq_true, decide_eq_true_eq] at hB
    have hri : i ∈ Region.ready md l.toArray listed := by rw [hB.1]; simp
    obtain ⟨_, o, ho, _⟩ := mem_ready.1 hri
    have hol : l[i]? = some o := by simpa using ho
    simp only [pick, hol] at h
    unfold wpR at h
    show wpX P md l.toArray R Q (cntS r + 1) listed a w
    refine And.intro (fun h0 => by rw [hB.1] at h0; cases h0) (fun j hj => ?_)
    rw [hB.1] at hj
    obtain rfl : j = i := by simpa using hj
    exact stepH_at (hR) ho (fun a'' w'' hr1 hk => wpR_script hR hs r _ _ _ (hR.2 _ _ _ hb hr1) hB.2 hk) h
  | .s i j :: r, listed, a, w, hb, hB, h => by
    simp only [okB, Bool.and_eq_true, decide_eq_true_eq] at hB
    obtain ⟨h1, h2, h3, h4⟩ := hB
    have hri : i ∈ Region.ready md l.toArray listed := by rw [h1]; simp
    have hrj : j ∈ Region.ready md l.toArray listed := by rw [h1]; simp
    obtain ⟨_, o, ho, _⟩ := mem_ready.1 hri
    obtain ⟨_, o', ho', _⟩ := mem_ready.1 hrj
    have hol : l[i]? = some o := by simpa using ho
    have hol' : l[j]? = some o' := by simpa using ho'
    simp only [pick, hol, hol'] at h
    unfold wpR at h
    show wpX P md l.toArray R Q (cntS r + 1 + 1) listed a w
    refine And.intro (fun h0 => by rw [h1] at h0; cases h0) (fun q hq => ?_)
    rw [h1] at hq
    by_cases hqi : q = i
    · subst hqi
      refine stepH_at (hR) ho (fun a'' w'' hr1 hk => ?_) h.1
      refine And.intro (fun h0 => by rw [h2] at h0; cases h0) (fun p hp => ?_)
      rw [h2] at hp
      obtain rfl : p = j := by simpa using hp
      exact stepH_at (hR) ho' (fun a3 w3 hR3 hk3 => wpR_script hR hs r _ _ _ (hR.2 _ _ _ hb (hR.2 _ _ _ hr1 hR3)) h4 hk3) hk
    · obtain rfl : q = j := by
        rcases (show q = i ∨ q = j by simpa using hq) with h5 | h5
        · exact absurd h5 hqi
        · exact h5
      refine stepH_at (hR) ho' (fun a'' w'' hr1 hk => ?_) h.2
      refine And.intro (fun h0 => by rw [h3] at h0; cases h0) (fun p hp => ?_)
      rw [h3] at hp
      obtain rfl : p = i := by simpa using hp
      exact stepH_at (hR) ho (fun a3 w3 hR3 hk3 => wpR_script hR hs r _ _ _ (hR.2 _ _ _ hb (hR.2 _ _ _ hr1 hR3)) (by rw [Array.setIfInBounds_comm _ _ hqi]; exact h4) hk3) hk
theorem wp_region_r (R : World → World → Prop) (hR : Steady R) {id : Nat} {Q : Exit → Act → World → Prop} {a : Act} {w : World} {l : List Oper} (sc : List Stp) (hm : P.follows .mixedOrders = true)
    (hB : (Region.noSelect l.toArray && decide (cntS sc = l.length) && okB .any l.toArray sc (Array.replicate l.length false)) = true)
    (h : ∀ w1, Ext w w1 → wpR P l.toArray R w1 (fun a'' w'' => Q .normal a'' w'') (pick l sc) a w1) : (Code.region id l.toArray true).wp P Q a w := by
  simp only [Bool.and_eq_true, decide_eq_true_eq] at hB
  obtain ⟨⟨h1, h2⟩, h3⟩ := hB
  refine wp_region_any hm ?_
  have h4 := wpR_script (md := .any) (w1 := w.drew) hR h1 sc (Array.replicate l.length false) a w.drew (hR.1 _) h3 (h w.drew (Below.drew (Below.refl _ _)))
  rw [h2] at h4
  simpa using wpAny_of_X (fun a w h => h) _ _ _ _ h4
theorem wpR_nil {w1 : World} {Q : Act → World → Prop} {a : Act} {w : World} (h : Q a w) : wpR P ops R w1 Q [] a w := h
theorem wpR_q {w1 : World} {Q : Act → World → Prop} {a : Act} {w : World} {o : Oper} {r : List StO}
    (h : ∀ K : Act → Prop, (∀ a, wpR P ops R w1 Q r a w → K a) → if Region.wanted o (yielded ops a.tmps) then qR P R o a w1 K else K (a.put o.dst undef)) : wpR P ops R w1 Q (.q o :: r) a w :=
  h _ (fun _ h => h)
theorem wpR_u {w1 : World} {Q : Act → World → Prop} {a : Act} {w : World} {o : Oper} {r : List StO} (h : stepH P ops R o (wpR P ops R w1 Q r) a w) : wpR P ops R w1 Q (.u o :: r) a w := h
theorem wpR_s {w1 : World} {Q : Act → World → Prop} {a : Act} {w : World} {o o' : Oper} {r : List StO} (h : stepH P ops R o (stepH P ops R o' (wpR P ops R w1 Q r)) a w) (h' : stepH P ops R o' (stepH P ops R o (wpR P ops R w1 Q r)) a w) : wpR P ops R w1 Q (.s o o' :: r) a w := ⟨h, h'⟩
end
/-! ### All blocks but two are as they were -/
structure Kept (g r : Nat) (w w' : World) : Prop where
  os : w'.os = w.os
  tape : w'.tape = w.tape
  output : w'.output = w.output
  size : w.heap.size ≤ w'.heap.size
  block : ∀ i, i < w.heap.size → i ≠ g → i ≠ r → w'.heap[i]? = w.heap[i]?
theorem Kept.refl (g r : Nat) (w : World) : Kept g r w w := ⟨rfl, rfl, rfl, Nat.le_refl _, fun _ _ _ _ => rfl⟩
theorem Kept.trans {g r : Nat} {a b c : World} (h : Kept g r a b) (k : Kept g r b c) : Kept g r a c :=
  ⟨k.os.trans h.os, k.tape.trans h.tape, k.output.trans h.output, Nat.le_trans h.size k.size, fun i hi h1 h2 => (k.block i (Nat.lt_of_lt_of_le hi h.size) h1 h2).trans (h.block i hi h1 h2)⟩
theorem Kept.grown {g r : Nat} {w w' : World} (h : w.grownBy w' (some g)) : Kept g r w w' := ⟨h.os, h.tape, h.output, h.size, fun i hi h1 _ => h.block i hi (by intro e; injection e with e; exact h1 e)⟩
theorem Kept.grown' {g r : Nat} {w w' : World} (h : w.grownBy w' (some r)) : Kept g r w w' := ⟨h.os, h.tape, h.output, h.size, fun i hi _ h1 => h.block i hi (by intro e; injection e with e; exact h1 e)⟩
theorem Kept.of_ext {g r : Nat} {w w' : World} (h : Ext w w') : Kept g r w w' := ⟨h.os, h.tape, h.output, h.size, fun i hi _ _ => h.block i hi⟩
theorem Kept.cell {g r : Nat} {w w' : World} (h : Kept g r w w') {p : Addr} {u : Value} (hc : w.cell? p = some u) (h1 : p.block ≠ g) (h2 : p.block ≠ r) : w'.cell? p = some u := (World.cell?_of_block (h.block _ (World.block_lt_of_cell? w _ hc) h1 h2)).trans hc
open Classical in
noncomputable def ovg (g r : Nat) (w x : World) : World := if Kept g r w x then x else w
theorem ovg_kept (g r : Nat) (w x : World) : Kept g r w (ovg g r w x) := by
  unfold ovg; split
  · assumption
  · exact Kept.refl _ _ _
theorem ovg_of {g r : Nat} {w x : World} (h : Kept g r w x) : ovg g r w x = x := by unfold ovg; rw [if_pos h]
@[go_sem] theorem ovg_cell (g r : Nat) (w x : World) (a : Addr) (h : (w.cell? a).isSome = true) (h1 : ¬ a.block = g) (h2 : ¬ a.block = r) : (ovg g r w x).cell? a = w.cell? a :=
  World.cell?_of_block ((ovg_kept g r w x).block _ (lt_of_some h) h1 h2)
def LaterG (g r : Nat) (w w' : World) : Prop := ∃ x, w' = ovg g r w x
theorem laterG_of {g r : Nat} {w w' : World} (h : Kept g r w w') : LaterG g r w w' := ⟨w', (ovg_of h).symm⟩
theorem laterG_kept {g r : Nat} {w w' : World} (h : LaterG g r w w') : Kept g r w w' := by obtain ⟨x, rfl⟩ := h; exact ovg_kept _ _ _ _
theorem laterG_steady (g r : Nat) : Steady (LaterG g r) := ⟨fun x => laterG_of (Kept.refl _ _ _), fun x y z h k => laterG_of ((laterG_kept h).trans (laterG_kept k))⟩
attribute [go_sem] LaterG qR
end Go.Proofs.Ytkifapcegiajiaa
