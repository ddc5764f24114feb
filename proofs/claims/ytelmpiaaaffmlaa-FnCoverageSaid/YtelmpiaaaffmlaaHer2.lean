/-
  As XHer, for a statement whose last operation stores into memory: that one is asked nothing of later worlds. Condition: a Bool on the statement's text, by the kernel.
-/
import Derived.Test.YtelmpiaaaffmlaaHer
namespace Go.Proofs.Ytelmpiaaaffmlaa
open Go.RowKit
set_option linter.unusedVariables false

section
variable {P : Program} {ops : Array Oper} {md : Region.Mode} {R : World → World → Prop}

/-- The tail: the last operation leads to the post. -/
def wpT2 (P : Program) (ops : Array Oper) (R : World → World → Prop) (Q : Act → World → Prop) : List Oper → Act → World → Prop
  | [], _, _ => False
  | [o], a, w => ∀ w', R w w' → if Region.wanted o (yielded ops a.tmps) then herOp P o a w' Q else Q (a.put o.dst undef) w'
  | o :: o' :: rest, a, w => ∀ w', R w w' → if Region.wanted o (yielded ops a.tmps) then herOp P o a w' (fun a'' w'' => R w' w'' ∧ wpT2 P ops R Q (o' :: rest) a'' w'') else wpT2 P ops R Q (o' :: rest) (a.put o.dst undef) w'
def wpHer2 (P : Program) (md : Region.Mode) (ops : Array Oper) (R : World → World → Prop) (tl : Nat) (Q : Act → World → Prop) : Nat → Array Bool → Act → World → Prop
  | 0, _, _, _ => False
  | fuel + 1, listed, a, w => ∀ w', R w w' → Region.ready md ops listed ≠ [] ∧
      ∀ i ∈ Region.ready md ops listed, herAt P ops i (fun a'' w'' => if i = tl then Region.ready md ops (listed.setIfInBounds i true) = [] ∧ Q a'' w'' else R w' w'' ∧ wpHer2 P md ops R tl Q fuel (listed.setIfInBounds i true) a'' w'') a w'
theorem wpHer2_later (hR : Steady R) {tl : Nat} {Q : Act → World → Prop} {fuel : Nat} {listed : Array Bool} {a : Act} {w w' : World} (h : wpHer2 P md ops R tl Q fuel listed a w) (hw : R w w') : wpHer2 P md ops R tl Q fuel listed a w' := by
  cases fuel with
  | zero => exact h.elim
  | succ n => exact fun w2 h2 => h w2 (hR.2 _ _ _ hw h2)
theorem wpAny_of_her2 (hR : Steady R) {tl : Nat} {Q : Act → World → Prop} {Q' : Exit → Act → World → Prop} (hQ : ∀ a w, Q a w → Q' .normal a w) : ∀ (fuel : Nat) (listed : Array Bool) (a : Act) (w : World),
    wpHer2 P md ops R tl Q fuel listed a w → wpAny P md ops Q' fuel listed a w
  | 0, _, _, _, h => h.elim
  | fuel + 1, _, _, w, h => ⟨fun h0 => absurd h0 (h w (hR.1 w)).1, fun i hi => wpOp_of_herAt (fun a' w' h' => by
      by_cases ht : i = tl
      · rw [if_pos ht] at h'
        exact wpAny_done h'.1 (hQ _ _ h'.2) fuel
      · rw [if_neg ht] at h'
        exact wpAny_of_her2 hR hQ fuel _ a' w' h'.2) ((h w (hR.1 w)).2 i hi)⟩
/-- The last operation waits for all others. -/
def lastB (md : Region.Mode) (ops : Array Oper) (tl : Nat) : Bool :=
  (List.range ops.size).all fun i => i == tl || !(Region.ready md ops (((Array.replicate ops.size true).setIfInBounds i false).setIfInBounds tl false)).contains tl
theorem ready_sub {listed listed' : Array Bool} {j : Nat} (hj : j ∈ Region.ready md ops listed) (h0 : listed'.getD j true = false) (h : ∀ k, listed.getD k false = true → listed'.getD k false = true) : j ∈ Region.ready md ops listed' := by
  rw [mem_ready] at *
  obtain ⟨_, o, ho, hall⟩ := hj
  exact ⟨h0, o, ho, fun e he hb => h _ (hall e he hb)⟩
theorem last_waits {tl i : Nat} {listed : Array Bool} (hB : lastB md ops tl = true) (hne : i ≠ tl) (hi : i ∈ Region.ready md ops listed) (hs : listed.size = ops.size) : tl ∉ Region.ready md ops listed := by
  intro ht
  unfold lastB at hB
  rw [List.all_eq_true] at hB
  obtain ⟨hu, oi, ho, _⟩ := mem_ready.1 hi
  have hlt : i < ops.size := (Array.getElem?_eq_some_iff.1 ho).1
  obtain ⟨hu', ot, hot, _⟩ := mem_ready.1 ht
  have hlt' : tl < ops.size := (Array.getElem?_eq_some_iff.1 hot).1
  have h := hB i (by simpa using hlt)
  have hne' : (i == tl) = false := by simpa using hne
  rw [hne', Bool.false_or, Bool.not_eq_true'] at h
  have : tl ∈ Region.ready md ops (((Array.replicate ops.size true).setIfInBounds i false).setIfInBounds tl false) := by
    refine ready_sub ht (by simp [hlt']) (fun k hk => ?_)
    have hks : k < listed.size := by
      rcases Nat.lt_or_ge k listed.size with h' | h'
      · exact h'
      · simp [Array.getElem?_eq_none h'] at hk
    have hki : k ≠ i := fun e => by subst e; simp [hks] at hk hu; rw [hk] at hu; cases hu
    have hkt : k ≠ tl := fun e => by subst e; simp [hks] at hk hu'; rw [hk] at hu'; cases hu'
    have hg : (((Array.replicate ops.size true).setIfInBounds i false).setIfInBounds tl false)[k]? = some true := by
      rw [Array.getElem?_setIfInBounds_ne (Ne.symm hkt), Array.getElem?_setIfInBounds_ne (Ne.symm hki)]
      have : k < ops.size := by omega
      simp [this]
    rw [Array.getD_eq_getD_getElem?, hg]; rfl
  have h2 : (Region.ready md ops (((Array.replicate ops.size true).setIfInBounds i false).setIfInBounds tl false)).contains tl = true := by simpa using this
  rw [h] at h2
  cases h2
theorem wpHer2_first (hR : Steady R) {tl : Nat} {Q : Act → World → Prop} {i : Nat} {oi : Oper} {v : Value} (hi : ops[i]? = some oi) (hsel : ∀ (j : Nat) (o : Oper) cs b, ops[j]? = some o → o.op ≠ .select cs b) (hit : i ≠ tl) (hlast : lastB md ops tl = true) :
    ∀ (fuel : Nat) (listed : Array Bool) (a : Act) (w : World), listed.size = ops.size →
      (∀ j oj, ops[j]? = some oj → j ≠ i → listed.getD j true = false → (∀ e ∈ oj.after, Region.binds md e = true → e.on ≠ i) → oi.apart ops oj = true) →
      i ∈ Region.ready md ops listed → YieldsH P ops R w oi v a →
      wpHer2 P md ops R tl Q fuel (listed.setIfInBounds i true) (a.put oi.dst v) w → wpHer2 P md ops R tl Q (fuel + 1) listed a w := by
  intro fuel
  induction fuel with
  | zero => intro listed a w _ _ _ _ H; exact H.elim
  | succ fuel ih =>
    intro listed a w hsz hfree hr hy H w0 h0
    refine ⟨fun h => (by rw [h] at hr; cases hr), fun j hj => ?_⟩
    by_cases hji : j = i
    · subst hji
      refine herAt_yields hR hi (hy.later hR h0) fun w' hw' => ?_
      rw [if_neg hit]
      exact ⟨hw', wpHer2_later hR H (hR.2 _ _ _ h0 hw')⟩
    · have hjt : j ≠ tl := fun e => by subst e; exact last_waits hlast hit hr hsz hj
      have h1 := (H w0 h0).2 j (ready_mono hj hji)
      obtain ⟨hjun, oj, hoj, hall⟩ := mem_ready.1 hj
      have hnot : ∀ e ∈ oj.after, Region.binds md e = true → e.on ≠ i := fun e he hb heq => by
        have h1 := hall e he hb
        have h0 := (mem_ready.1 hr).1
        rw [heq] at h1
        rcases Nat.lt_or_ge i listed.size with h' | h'
        · simp [h'] at h0 h1; rw [h0] at h1; cases h1
        · simp [Array.getElem?_eq_none h'] at h1
      have hfree' : ∀ k ok, ops[k]? = some ok → k ≠ i → (listed.setIfInBounds j true).getD k true = false →
          (∀ e ∈ ok.after, Region.binds md e = true → e.on ≠ i) → oi.apart ops ok = true := fun k ok hk hki hun hno => by
        refine hfree k ok hk hki ?_ hno
        by_cases hjk : j = k
        · subst hjk; exact hjun
        · rw [Go.getD_set_ne true hjk] at hun; exact hun
      have hap := hfree j oj hoj hji hjun hnot
      have hsi := fun cs b => hsel i oi cs b hi
      have h2 := herAt_put hoj hap hsi (fun cs b => hsel j oj cs b hoj) (hy.later hR h0) h1
      refine herAt_mono (fun a' w' h3 => ?_) h2
      rw [if_neg hjt] at h3 ⊢
      refine ⟨h3.2.1, ih (listed.setIfInBounds j true) a' w' (by simpa using hsz) hfree' (ready_mono hr (Ne.symm hji)) (h3.1.later hR h3.2.1) ?_⟩
      rw [Array.setIfInBounds_comm _ _ hji]
      exact h3.2.2
def tailB2 (md : Region.Mode) (ops : Array Oper) (tl : Nat) : List Nat → Array Bool → Bool
  | [], _ => false
  | [i], listed => decide (i = tl) && decide (Region.ready md ops listed = [i]) && (Region.ready md ops (listed.setIfInBounds i true)).isEmpty
  | i :: j :: is, listed => decide (i ≠ tl) && decide (Region.ready md ops listed = [i]) && tailB2 md ops tl (j :: is) (listed.setIfInBounds i true)
def headB2 (md : Region.Mode) (ops : Array Oper) (tl : Nat) : List Nat → List Nat → Array Bool → Bool
  | [], ts, listed => tailB2 md ops tl ts listed
  | i :: is, ts, listed => decide (i ≠ tl) && (Region.ready md ops listed).contains i && Region.free md ops listed i && headB2 md ops tl is ts (listed.setIfInBounds i true)
theorem wpHer2_tail (hR : Steady R) {tl : Nat} {Q : Act → World → Prop} : ∀ (is : List Nat) (l : List Oper) (listed : Array Bool) (a : Act) (w : World), is.map (ops[·]?) = l.map some → tailB2 md ops tl is listed = true → wpT2 P ops R Q l a w → wpHer2 P md ops R tl Q l.length listed a w
  | [], _, _, _, _, _, hB, _ => by simp [tailB2] at hB
  | _ :: _, [], _, _, _, he, _, _ => by simp at he
  | [i], _ :: _ :: _, _, _, _, he, _, _ => by simp at he
  | _ :: _ :: _, [_], _, _, _, he, _, _ => by simp at he
  | [i], [o], listed, a, w, he, hB, h => fun w' hw' => by
    simp only [List.map_cons, List.cons.injEq] at he
    simp only [tailB2, Bool.and_eq_true, decide_eq_true_eq, List.isEmpty_iff] at hB
    obtain ⟨⟨ht, hr⟩, hr2⟩ := hB
    refine And.intro (fun h0 => by rw [hr] at h0; cases h0) (fun j hj => ?_)
    rw [hr] at hj
    obtain rfl : j = i := by simpa using hj
    have h1 := h w' hw'
    rw [herAt]
    subst ht
    simp only [he.1, if_true]
    split
    · rename_i hw
      rw [if_pos hw] at h1
      exact herOp_mono (fun a w h => ⟨hr2, h⟩) h1
    · rename_i hw
      rw [if_neg hw] at h1
      exact ⟨hr2, h1⟩
  | i :: i' :: is, o :: o' :: l, listed, a, w, he, hB, h => fun w' hw' => by
    simp only [List.map_cons, List.cons.injEq] at he
    simp only [tailB2, Bool.and_eq_true, decide_eq_true_eq] at hB
    obtain ⟨⟨ht, hr⟩, hB'⟩ := hB
    refine And.intro (fun h0 => by rw [hr] at h0; cases h0) (fun j hj => ?_)
    rw [hr] at hj
    obtain rfl : j = i := by simpa using hj
    have h1 := h w' hw'
    rw [herAt]
    simp only [he.1, ht, if_false]
    split
    · rename_i hw
      rw [if_pos hw] at h1
      exact herOp_mono (fun a w h => ⟨h.1, wpHer2_tail hR (i' :: is) (o' :: l) _ _ _ (by simp [he.2]) hB' h.2⟩) h1
    · rename_i hw
      rw [if_neg hw] at h1
      exact ⟨hR.1 _, wpHer2_tail hR (i' :: is) (o' :: l) _ _ _ (by simp [he.2]) hB' h1⟩
theorem wpHer2_head (hR : Steady R) {tl : Nat} {Q : Act → World → Prop} (hs : Region.noSelect ops = true) (hlast : lastB md ops tl = true) : ∀ (qs ts : List Nat) (lq lt : List Oper) (listed : Array Bool) (a : Act) (w : World), listed.size = ops.size → qs.map (ops[·]?) = lq.map some → ts.map (ops[·]?) = lt.map some →
    headB2 md ops tl qs ts listed = true → wpH P ops R w (fun a' => wpT2 P ops R Q lt a' w) lq a → wpHer2 P md ops R tl Q (lq.length + lt.length) listed a w
  | [], ts, [], lt, listed, a, w, _, _, ht, hB, h => by rw [List.length_nil, Nat.zero_add]; exact wpHer2_tail hR ts lt listed a w ht hB h
  | [], _, _ :: _, _, _, _, _, _, he, _, _, _ => by simp at he
  | _ :: _, _, [], _, _, _, _, _, he, _, _, _ => by simp at he
  | i :: is, ts, o :: l, lt, listed, a, w, hsz, he, ht, hB, h => by
    simp only [List.map_cons, List.cons.injEq] at he
    simp only [headB2, Bool.and_eq_true, decide_eq_true_eq] at hB
    obtain ⟨⟨⟨hit, hr⟩, hf⟩, hB'⟩ := hB
    rw [List.length_cons, show l.length + 1 + lt.length = (l.length + lt.length) + 1 from by omega]
    unfold wpH at h
    by_cases hw : Region.wanted o (yielded ops a.tmps) = true
    · rw [if_pos hw] at h
      obtain ⟨v, hv, hK⟩ := h
      exact wpHer2_first hR he.1 (Region.noSelect_spec hs) hit hlast (l.length + lt.length) listed a w hsz (Region.free_spec he.1 hf) (by simpa using hr) (.inl ⟨hw, hv⟩) (wpHer2_head hR hs hlast is ts l lt _ _ _ (by simpa using hsz) he.2 ht hB' hK)
    · rw [if_neg hw] at h
      exact wpHer2_first hR he.1 (Region.noSelect_spec hs) hit hlast (l.length + lt.length) listed a w hsz (Region.free_spec he.1 hf) (by simpa using hr) (.inr ⟨by simpa using hw, rfl⟩) (wpHer2_head hR hs hlast is ts l lt _ _ _ (by simpa using hsz) he.2 ht hB' h)
/-- A region that draws: those marked true first, the rest behind them, the last one of all a store. -/
theorem wp_region_her2 {id : Nat} {Q : Exit → Act → World → Prop} {a : Act} {w : World} {l : List Oper} (mask : List Bool) (hm : P.follows .mixedOrders = true)
    (hB : (Region.noSelect l.toArray && decide ((selB mask l).length + (selB (notB mask) l).length = l.length) && lastB .any l.toArray (l.length - 1) && headB2 .any l.toArray (l.length - 1) (selB mask (List.range' 0 l.length)) (selB (notB mask) (List.range' 0 l.length)) (Array.replicate l.length false)) = true)
    (h : wpH P l.toArray LaterW w (fun a' => wpT2 P l.toArray LaterW (fun a'' w'' => Q .normal a'' w'') (selB (notB mask) l) a' w) (selB mask l) a) : (Code.region id l.toArray true).wp P Q a w := by
  simp only [Bool.and_eq_true, decide_eq_true_eq] at hB
  obtain ⟨⟨⟨h1, h2⟩, h3⟩, h4⟩ := hB
  refine wp_region_any hm ?_
  have h5 := wpHer2_head (md := .any) laterW_steady h1 h3 _ _ (selB mask l) (selB (notB mask) l) (Array.replicate l.length false) a w (by simp) (selB_map mask l 0 (by simp)) (selB_map (notB mask) l 0 (by simp)) h4 h
  rw [h2] at h5
  have h6 := wpHer2_later laterW_steady h5 (w' := w.drew) ⟨w.drew, (ovr_of (Below.drew (Below.refl _ _))).symm⟩
  simpa using wpAny_of_her2 laterW_steady (fun a w h => h) _ _ _ _ h6
theorem wpT2_last {Q : Act → World → Prop} {a : Act} {w : World} {o : Oper} (h : ∀ w', R w w' → if Region.wanted o (yielded ops a.tmps) then herOp P o a w' Q else Q (a.put o.dst undef) w') : wpT2 P ops R Q [o] a w := h
theorem wpT2_step {Q : Act → World → Prop} {a : Act} {w : World} {o o' : Oper} {rest : List Oper}
    (h : ∀ w', R w w' → ∀ K : Act → World → Prop, (∀ a'' w'', R w' w'' → wpT2 P ops R Q (o' :: rest) a'' w'' → K a'' w'') → if Region.wanted o (yielded ops a.tmps) then herOp P o a w' K else wpT2 P ops R Q (o' :: rest) (a.put o.dst undef) w') : wpT2 P ops R Q (o :: o' :: rest) a w := fun w' hw' =>
  h w' hw' (fun a'' w'' => R w' w'' ∧ wpT2 P ops R Q (o' :: rest) a'' w'') (fun a'' w'' h1 h2 => ⟨h1, h2⟩)
end
end Go.Proofs.Ytelmpiaaaffmlaa
