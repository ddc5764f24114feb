/-
  A statement whose order is open: its operations that only read or compute are walked first, in any world that extends the first; the others behind them, each in just the world that the one before it left; two of them may come in either order. They may write what was made since. Condition: a Bool on the statement's text, by the kernel.
-/
import Derived.Test.YtkifapcegiajiaaHer
import Derived.Test.YtkifapcegiajiaaPush
namespace Go.Proofs.Ytkifapcegiajiaa
open Go.RowKit
set_option linter.unusedVariables false

section
variable {P : Program} {ops : Array Oper} {md : Region.Mode} {R : World → World → Prop}

def YieldsX (P : Program) (ops : Array Oper) (R : World → World → Prop) (w : World) (o : Oper) (v : Value) (a : Act) : Prop :=
  (Region.wanted o (yielded ops a.tmps) = true ∧ ∀ w0, R w w0 → o.quietAt P a (fun y => y = w0) w0 v) ∨ (Region.wanted o (yielded ops a.tmps) = false ∧ v = undef)
theorem YieldsX.of_same {o : Oper} {v : Value} {a a' : Act} {w : World} (hy : YieldsX P ops R w o v a) (he : execOp a'.eval o = execOp a.eval o)
    (hw : Region.wanted o (yielded ops a'.tmps) = Region.wanted o (yielded ops a.tmps)) : YieldsX P ops R w o v a' := by
  unfold YieldsX Oper.quietAt at *
  rw [he, hw]
  exact hy
theorem YieldsX.later (hR : Steady R) {o : Oper} {v : Value} {a : Act} {w w' : World} (hy : YieldsX P ops R w o v a) (h : R w w') : YieldsX P ops R w' o v a :=
  hy.imp (fun ⟨h1, h2⟩ => ⟨h1, fun w0 h0 => h2 w0 (hR.2 _ _ _ h h0)⟩) id
theorem herAt_yieldsX (hR : Steady R) {i : Nat} {o : Oper} {v : Value} {a : Act} {w : World} (hi : ops[i]? = some o) (hy : YieldsX P ops R w o v a) {K : Act → World → Prop}
    (hK : K (a.put o.dst v) w) : herAt P ops i K a w := by
  unfold herAt
  simp only [hi]
  rcases hy with ⟨hw, hv⟩ | ⟨hw, rfl⟩
  · simp only [hw, if_true]
    have h1 := hv w (hR.1 w)
    unfold Oper.quietAt at h1
    unfold herOp
    generalize (execOp a.eval o).run P w = r at *
    cases r with
    | ok n w' =>
      cases n <;> simp only [Oper.quietUpon] at h1 <;> simp only [herUpon]
      case value u => obtain ⟨e1, e2⟩ := h1; rw [e1, e2]; exact hK
      case skip => obtain ⟨e1, e2⟩ := h1; rw [e1, ← e2]; exact hK
      case enter f args =>
        obtain ⟨e1, hc⟩ := h1
        rw [e1]
        exact hc.mono fun e w'' ⟨he, hw''⟩ => ⟨v, he, by rw [hw'']; exact hK⟩
    | halt x w' => simp only [Oper.quietUpon] at h1
  · simp only [hw, Bool.false_eq_true, if_false]; exact hK
theorem herAt_putX {j : Nat} {oi oj : Oper} {v : Value} {w w1 : World} (hj : ops[j]? = some oj) (hap : oi.apart ops oj = true) (hsi : ∀ cs b, oi.op ≠ .select cs b) (hsj : ∀ cs b, oj.op ≠ .select cs b) {K : Act → World → Prop} {a : Act}
    (hy : YieldsX P ops R w1 oi v a) (h : herAt P ops j K (a.put oi.dst v) w) : herAt P ops j (fun a' w' => YieldsX P ops R w1 oi v a' ∧ K (a'.put oi.dst v) w') a w := by
  obtain ⟨h1, h2, h3⟩ := Oper.apart_spec hap
  have keep : ∀ (a : Act), YieldsX P ops R w1 oi v a → ∀ u, YieldsX P ops R w1 oi v (a.put oj.dst u) := fun a hy u =>
    hy.of_same (execOp_put oi hsi a oj.dst u h3) (wanted_put oi a oj.dst u h3)
  unfold herAt at *
  simp only [hj] at *
  rw [wanted_put oj a oi.dst v h1] at h
  split
  · rename_i hw
    simp only [hw, if_true] at h
    unfold herOp at *
    rw [execOp_put oj hsj a oi.dst v h1] at h
    generalize (execOp a.eval oj).run P w = r at *
    cases r with
    | ok n w' =>
      cases n <;> simp only [herUpon] at h ⊢
      case enter f args => exact Calls.mono h fun e w'' ⟨u, he, hk⟩ => ⟨u, he, keep a hy u, by rw [← Act.put_comm a v u h2]; exact hk⟩
      all_goals exact ⟨keep a hy _, by rw [← Act.put_comm a v _ h2]; exact h⟩
    | halt x w' => simp only [herUpon] at h
  · rename_i hw
    simp only [hw] at h
    exact ⟨keep a hy _, by rw [← Act.put_comm a v undef h2]; exact h⟩

def wpX (P : Program) (md : Region.Mode) (ops : Array Oper) (R : World → World → Prop) (Q : Act → World → Prop) : Nat → Array Bool → Act → World → Prop
  | 0, listed, a, w => Region.ready md ops listed = [] ∧ Q a w
  | fuel + 1, listed, a, w => (Region.ready md ops listed = [] → Q a w) ∧
      ∀ i ∈ Region.ready md ops listed, herAt P ops i (fun a'' w'' => R w w'' ∧ wpX P md ops R Q fuel (listed.setIfInBounds i true) a'' w'') a w
theorem wpAny_of_X {Q : Act → World → Prop} {Q' : Exit → Act → World → Prop} (hQ : ∀ a w, Q a w → Q' .normal a w) : ∀ (fuel : Nat) (listed : Array Bool) (a : Act) (w : World),
    wpX P md ops R Q fuel listed a w → wpAny P md ops Q' fuel listed a w
  | 0, _, _, w, h => ⟨h.1, hQ _ _ h.2⟩
  | fuel + 1, _, _, w, h => ⟨fun h0 => hQ _ _ (h.1 h0), fun i hi => wpOp_of_herAt (fun a' w' h' => wpAny_of_X hQ fuel _ a' w' h'.2) (h.2 i hi)⟩
theorem wpX_first (hR : Steady R) {Q : Act → World → Prop} {i : Nat} {oi : Oper} {v : Value} (hi : ops[i]? = some oi) (hsel : ∀ (j : Nat) (o : Oper) cs b, ops[j]? = some o → o.op ≠ .select cs b) :
    ∀ (fuel : Nat) (listed : Array Bool) (a : Act) (w : World),
      (∀ j oj, ops[j]? = some oj → j ≠ i → listed.getD j true = false → (∀ e ∈ oj.after, Region.binds md e = true → e.on ≠ i) → oi.apart ops oj = true) →
      i ∈ Region.ready md ops listed → YieldsX P ops R w oi v a →
      wpX P md ops R Q fuel (listed.setIfInBounds i true) (a.put oi.dst v) w → wpX P md ops R Q (fuel + 1) listed a w := by
  intro fuel
  induction fuel with
  | zero =>
    intro listed a w _ hr hy H
    refine ⟨fun h => (by rw [h] at hr; cases hr), fun j hj => ?_⟩
    by_cases hji : j = i
    · subst hji
      exact herAt_yieldsX hR hi hy ⟨hR.1 w, H⟩
    · have := ready_mono hj hji
      rw [H.1] at this
      cases this
  | succ fuel ih =>
    intro listed a w hfree hr hy H
    refine ⟨fun h => (by rw [h] at hr; cases hr), fun j hj => ?_⟩
    by_cases hji : j = i
    · subst hji
      exact herAt_yieldsX hR hi hy ⟨hR.1 w, H⟩
    · have h1 := H.2 j (ready_mono hj hji)
      obtain ⟨hjun, oj, hoj, hall⟩ := mem_ready.1 hj
      have hnot : ∀ e ∈ oj.after, Region.binds md e = true → e.on ≠ i := fun e he hb heq => by
        have h1 := hall e he hb
        have h0 := (mem_ready.1 hr).1
        rw [heq] at h1
        rcases Nat.lt_or_ge i listed.size with h' | h'
        · simp [h'] at h0 h1; rw [h0] at h1; cases h1
        · simp [Array.getElem?_eq_none h'] at h1
      have hfree' : ∀ k ok, ops[k]? = some ok → k ≠ i → (listed.setIfInBounds j true).getD k true = false →
          (∀ e ∈ ok.after, Region.binds md e = true → e.on ≠ i) → oi.apart ops ok = true := fun k ok hk hki hun hno => by
        refine hfree k ok hk hki ?_ hno
        by_cases hjk : j = k
        · subst hjk; exact hjun
        · rw [Go.getD_set_ne true hjk] at hun; exact hun
      have hap := hfree j oj hoj hji hjun hnot
      have hsi := fun cs b => hsel i oi cs b hi
      have h2 := herAt_putX hoj hap hsi (fun cs b => hsel j oj cs b hoj) hy h1
      refine herAt_mono (fun a' w' h3 => ⟨h3.2.1, ih (listed.setIfInBounds j true) a' w' hfree' (ready_mono hr (Ne.symm hji)) (h3.1.later hR h3.2.1) ?_⟩) h2
      rw [Array.setIfInBounds_comm _ _ hji]
      exact h3.2.2
/-- What is done with an operation: it is of a fixed value (q), it is the only one that may come up (u), or it and another may come up in either order (s). -/
inductive Stp
  | q (i : Nat)
  | u (i : Nat)
  | s (i j : Nat)
inductive StO
  | q (o : Oper)
  | u (o : Oper)
  | s (o o' : Oper)
def pick (l : List Oper) : List Stp → List StO
  | [] => []
  | .q i :: r => match l[i]? with
    | some o => .q o :: pick l r
    | none => []
  | .u i :: r => match l[i]? with
    | some o => .u o :: pick l r
    | none => []
  | .s i j :: r => match l[i]?, l[j]? with
    | some o, some o' => .s o o' :: pick l r
    | _, _ => []
def cntS : List Stp → Nat
  | [] => 0
  | .q _ :: r => cntS r + 1
  | .u _ :: r => cntS r + 1
  | .s _ _ :: r => cntS r + 1 + 1
def okB (md : Region.Mode) (ops : Array Oper) : List Stp → Array Bool → Bool
  | [], listed => (Region.ready md ops listed).isEmpty
  | .q i :: r, listed => (Region.ready md ops listed).contains i && Region.free md ops listed i && okB md ops r (listed.setIfInBounds i true)
  | .u i :: r, listed => decide (Region.ready md ops listed = [i]) && okB md ops r (listed.setIfInBounds i true)
  | .s i j :: r, listed => decide (Region.ready md ops listed = [i, j]) && (decide (Region.ready md ops (listed.setIfInBounds i true) = [j]) && (decide (Region.ready md ops (listed.setIfInBounds j true) = [i]) && okB md ops r ((listed.setIfInBounds i true).setIfInBounds j true)))
def qX (P : Program) (o : Oper) (a : Act) (w : World) (K : Act → Prop) : Prop := ∃ v, (∀ w0, LaterW w w0 → o.quietAt P a (fun y => y = w0) w0 v) ∧ K (a.put o.dst v)
def stepH (P : Program) (ops : Array Oper) (R : World → World → Prop) (o : Oper) (K : Act → World → Prop) (a : Act) (w : World) : Prop :=
  if Region.wanted o (yielded ops a.tmps) then herOp P o a w (fun a'' w'' => R w w'' ∧ K a'' w'') else K (a.put o.dst undef) w
/-- The operations one behind the other, as the script says. -/
def wpZ (P : Program) (ops : Array Oper) (R : World → World → Prop) (w1 : World) (Q : Act → World → Prop) : List StO → Act → World → Prop
  | [], a, w => Q a w
  | .q o :: r, a, w => if Region.wanted o (yielded ops a.tmps) then qX P o a w1 (fun a' => wpZ P ops R w1 Q r a' w) else wpZ P ops R w1 Q r (a.put o.dst undef) w
  | .u o :: r, a, w => stepH P ops R o (wpZ P ops R w1 Q r) a w
  | .s o o' :: r, a, w => stepH P ops R o (stepH P ops R o' (wpZ P ops R w1 Q r)) a w ∧ stepH P ops R o' (stepH P ops R o (wpZ P ops R w1 Q r)) a w
theorem stepH_at {i : Nat} {o : Oper} {K K' : Act → World → Prop} {a : Act} {w : World} (hR : Steady R) (hi : ops[i]? = some o) (hk : ∀ a'' w'', R w w'' → K a'' w'' → K' a'' w'') (h : stepH P ops R o K a w) :
    herAt P ops i (fun a'' w'' => R w w'' ∧ K' a'' w'') a w := by
  unfold stepH at h
  unfold herAt
  simp only [hi]
  split
  · rename_i hw
    simp only [hw, if_true] at h
    exact herOp_mono (fun a w h => ⟨h.1, hk _ _ h.1 h.2⟩) h
  · rename_i hw
    simp only [hw] at h
    exact ⟨hR.1 _, hk _ _ (hR.1 _) h⟩
theorem below_steady (N : Nat) : Steady (Below N) := ⟨fun x => Below.refl _ _, fun x y z h k => h.trans k⟩
theorem wpX_script {l : List Oper} {w1 : World} {Q : Act → World → Prop} (hs : Region.noSelect l.toArray = true) : ∀ (sc : List Stp) (listed : Array Bool) (a : Act) (w : World), Below w1.heap.size w1 w →
    okB md l.toArray sc listed = true → wpZ P l.toArray (Below w1.heap.size) w1 Q (pick l sc) a w → wpX P md l.toArray (Below w1.heap.size) Q (cntS sc) listed a w
  | [], listed, a, w, hb, hB, h => ⟨by simpa [okB] using hB, h⟩
  | .q i :: r, listed, a, w, hb, hB, h => by
    simp only [okB, Bool.and_eq_true] at hB
    obtain ⟨⟨hr, hf⟩, hB'⟩ := hB
    have hri : i ∈ Region.ready md l.toArray listed := by simpa using hr
    obtain ⟨_, o, ho, _⟩ := mem_ready.1 hri
    have hol : l[i]? = some o := by simpa using ho
    simp only [pick, hol] at h
    unfold wpZ at h
    show wpX P md l.toArray (Below w1.heap.size) Q (cntS r + 1) listed a w
    by_cases hw : Region.wanted o (yielded l.toArray a.tmps) = true
    · rw [if_pos hw] at h
      obtain ⟨v, hv, hK⟩ := h
      exact wpX_first (below_steady _) ho (Region.noSelect_spec hs) (cntS r) listed a w (Region.free_spec ho hf) hri (.inl ⟨hw, fun w0 h0 => hv w0 (Ext.ex (hb.trans h0))⟩) (wpX_script hs r _ _ w hb hB' hK)
    · rw [if_neg hw] at h
      exact wpX_first (below_steady _) ho (Region.noSelect_spec hs) (cntS r) listed a w (Region.free_spec ho hf) hri (.inr ⟨by simpa using hw, rfl⟩) (wpX_script hs r _ _ w hb hB' h)
  | .u i :: r, listed, a, w, hb, hB, h => by
    simp only [okB, Bool.and_eq_true, decide_eq_true_eq] at hB
    have hri : i ∈ Region.ready md l.toArray listed := by rw [hB.1]; simp
    obtain ⟨_, o, ho, _⟩ := mem_ready.1 hri
    have hol : l[i]? = some o := by simpa using ho
    simp only [pick, hol] at h
    unfold wpZ at h
    show wpX P md l.toArray (Below w1.heap.size) Q (cntS r + 1) listed a w
    refine And.intro (fun h0 => by rw [hB.1] at h0; cases h0) (fun j hj => ?_)
    rw [hB.1] at hj
    obtain rfl : j = i := by simpa using hj
    exact stepH_at (below_steady _) ho (fun a'' w'' hR hk => wpX_script hs r _ _ _ (hb.trans hR) hB.2 hk) h
  | .s i j :: r, listed, a, w, hb, hB, h => by
    simp only [okB, Bool.and_eq_true, decide_eq_true_eq] at hB
    obtain ⟨h1, h2, h3, h4⟩ := hB
    have hri : i ∈ Region.ready md l.toArray listed := by rw [h1]; simp
    have hrj : j ∈ Region.ready md l.toArray listed := by rw [h1]; simp
    obtain ⟨_, o, ho, _⟩ := mem_ready.1 hri
    obtain ⟨_, o', ho', _⟩ := mem_ready.1 hrj
    have hol : l[i]? = some o := by simpa using ho
    have hol' : l[j]? = some o' := by simpa using ho'
    simp only [pick, hol, hol'] at h
    unfold wpZ at h
    show wpX P md l.toArray (Below w1.heap.size) Q (cntS r + 1 + 1) listed a w
    refine And.intro (fun h0 => by rw [h1] at h0; cases h0) (fun q hq => ?_)
    rw [h1] at hq
    by_cases hqi : q = i
    · subst hqi
      refine stepH_at (below_steady _) ho (fun a'' w'' hR hk => ?_) h.1
      refine And.intro (fun h0 => by rw [h2] at h0; cases h0) (fun p hp => ?_)
      rw [h2] at hp
      obtain rfl : p = j := by simpa using hp
      exact stepH_at (below_steady _) ho' (fun a3 w3 hR3 hk3 => wpX_script hs r _ _ _ (hb.trans (hR.trans hR3)) h4 hk3) hk
    · obtain rfl : q = j := by
        rcases (show q = i ∨ q = j by simpa using hq) with h5 | h5
        · exact absurd h5 hqi
        · exact h5
      refine stepH_at (below_steady _) ho' (fun a'' w'' hR hk => ?_) h.2
      refine And.intro (fun h0 => by rw [h3] at h0; cases h0) (fun p hp => ?_)
      rw [h3] at hp
      obtain rfl : p = i := by simpa using hp
      exact stepH_at (below_steady _) ho (fun a3 w3 hR3 hk3 => wpX_script hs r _ _ _ (hb.trans (hR.trans hR3)) (by rw [Array.setIfInBounds_comm _ _ hqi]; exact h4) hk3) hk
theorem wp_region_x {id : Nat} {Q : Exit → Act → World → Prop} {a : Act} {w : World} {l : List Oper} (sc : List Stp) (hm : P.follows .mixedOrders = true)
    (hB : (Region.noSelect l.toArray && decide (cntS sc = l.length) && okB .any l.toArray sc (Array.replicate l.length false)) = true)
    (h : ∀ w1, Ext w w1 → wpZ P l.toArray (Below w1.heap.size) w1 (fun a'' w'' => Q .normal a'' w'') (pick l sc) a w1) : (Code.region id l.toArray true).wp P Q a w := by
  simp only [Bool.and_eq_true, decide_eq_true_eq] at hB
  obtain ⟨⟨h1, h2⟩, h3⟩ := hB
  refine wp_region_any hm ?_
  have h4 := wpX_script (md := .any) (w1 := w.drew) h1 sc (Array.replicate l.length false) a w.drew (Below.refl _ _) h3 (h w.drew (Below.drew (Below.refl _ _)))
  rw [h2] at h4
  simpa using wpAny_of_X (fun a w h => h) _ _ _ _ h4
theorem wpZ_nil {w1 : World} {Q : Act → World → Prop} {a : Act} {w : World} (h : Q a w) : wpZ P ops R w1 Q [] a w := h
theorem wpZ_q {w1 : World} {Q : Act → World → Prop} {a : Act} {w : World} {o : Oper} {r : List StO}
    (h : ∀ K : Act → Prop, (∀ a, wpZ P ops R w1 Q r a w → K a) → if Region.wanted o (yielded ops a.tmps) then qX P o a w1 K else K (a.put o.dst undef)) : wpZ P ops R w1 Q (.q o :: r) a w :=
  h _ (fun _ h => h)
theorem wpZ_u {w1 : World} {Q : Act → World → Prop} {a : Act} {w : World} {o : Oper} {r : List StO} (h : stepH P ops R o (wpZ P ops R w1 Q r) a w) : wpZ P ops R w1 Q (.u o :: r) a w := h
theorem wpZ_s {w1 : World} {Q : Act → World → Prop} {a : Act} {w : World} {o o' : Oper} {r : List StO} (h : stepH P ops R o (stepH P ops R o' (wpZ P ops R w1 Q r)) a w) (h' : stepH P ops R o' (stepH P ops R o (wpZ P ops R w1 Q r)) a w) : wpZ P ops R w1 Q (.s o o' :: r) a w := ⟨h, h'⟩
theorem stepH_of {o : Oper} {K : Act → World → Prop} {a : Act} {w : World}
    (h : ∀ K' : Act → World → Prop, (∀ a'' w'', R w w'' → K a'' w'' → K' a'' w'') → if Region.wanted o (yielded ops a.tmps) then herOp P o a w K' else K (a.put o.dst undef) w) : stepH P ops R o K a w := by
  have := h (fun a'' w'' => R w w'' ∧ K a'' w'') (fun a'' w'' h1 h2 => ⟨h1, h2⟩)
  unfold stepH
  exact this
/-- append of cells that lie in memory to a row that the call owns. -/
theorem her_push (wa : World) {w : World} {o : Oper} {a : Act} {K : Act → World → Prop} (s x : Operand) (t : TypeId)
    (ho : o.op = .call { callee := .builtin .append, args := #[s, x], argTypes := #[t, t] })
    (e : TypeId) {z : Value} {size bytes : Nat} (ht : P.underlying t = some (.slice e)) (hinfo : (P.info? e).map (fun i => (i.zero, i.size, i.bytes)) = some (some z, size, bytes)) (hzs : z.cells.size = size) (hsz : 0 < size)
    (v : Value) (n : Nat) (xs : List Value) (hs : a.eval s = v) (hown : w.ownsRow wa.heap.size e size v n xs) (hea : Ext wa w)
    (ad : Addr) (m c : Nat) (news : List Value) (hx : a.eval x = .slice (some ad) m c) (hl : news.length = m * size) (hnews : ∀ j u, news[j]? = some u → w.cell? (ad.add j) = some u) (h1 : ∀ u ∈ news, u.oneCell' = true)
    (hm : 0 < m) (h63 : n + m ≤ 1000000000000) (hby : bytes ≤ 100)
    (h : ∀ g cap w', w'.ownsRow wa.heap.size e size (.slice (some ⟨g, 0, none⟩) (n + m) cap) (n + m) (xs ++ news) → Ext wa w' → w.grownBy w' v.ownBlock → K (a.put o.dst (.slice (some ⟨g, 0, none⟩) (n + m) cap)) w') : herOp P o a w K := by
  obtain ⟨i, hi, hz0, hz1, hz2⟩ := info_parts hinfo
  obtain ⟨g, cap, w', hr, h2, h3, h4, h5⟩ := run_append_lies (P := P) w t o.type wa.heap.size e i z size bytes ht hi hz0 hz1 hz2 hzs hsz v n xs hown ad m c news hl hnews h1 hm (by unfold maxLen; omega) (by have := Nat.mul_le_mul h63 hby; omega) hea.size w.heap.size rfl
  unfold herOp execOp
  simp only [ho, resolve, invoke, builtin, Sem.run_bind, Sem.run_pure, Result.andThen_ok, List.map_toArray, List.map_cons, List.map_nil, hs, hx, hr]
  exact h g cap w' h2 (grown_ext hea hown (Nat.le_refl _) h3) h3
theorem grown_below {N : Nat} {wa w w' : World} {v : Value} {n size : Nat} {e : TypeId} {xs : List Value} (hg : w.grownBy w' v.ownBlock) (hown : w.ownsRow wa.heap.size e size v n xs) (hN : N ≤ wa.heap.size) (hw : N ≤ w.heap.size) : Below N w w' :=
  Below.grown (Below.refl _ _) hg hw fun k hk => by have := (hown.lt k hk).1; omega
theorem ext_below {N : Nat} {w w' : World} (h : Ext w w') (hN : N ≤ w.heap.size) : Below N w w' := Below.mono h hN
attribute [go_sem] qX
end
end Go.Proofs.Ytkifapcegiajiaa
