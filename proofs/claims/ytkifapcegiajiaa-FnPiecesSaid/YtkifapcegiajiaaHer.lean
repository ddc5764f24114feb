/-
  A statement whose order is open: its operations that read, compute or call functions of a fixed value are walked first, the others behind them, each in whatever later world. Condition: a Bool on the statement's text, by the kernel.
-/
import Derived.Test.YtkifapcegiajiaaKit
namespace Go.Proofs.Ytkifapcegiajiaa
open Go.RowKit

section
variable {P : Program} {ops : Array Oper} {md : Region.Mode} {R : World → World → Prop}

def Steady (R : World → World → Prop) : Prop := (∀ x, R x x) ∧ ∀ x y z, R x y → R y z → R x z
/-- What is asked of one operation: it yields a value, or calls a function that returns one; no panic. -/
def herUpon (P : Program) (o : Oper) (a : Act) (K : Act → World → Prop) : Result Next → Prop
  | .ok (.value v) w' => K (a.put o.dst v) w'
  | .ok .skip w' => K (a.put o.dst undef) w'
  | .ok (.enter f args) w' => Calls P f args w' fun e w'' => ∃ v, e = .returned v ∧ K (a.put o.dst v) w''
  | _ => False
def herOp (P : Program) (o : Oper) (a : Act) (w : World) (K : Act → World → Prop) : Prop := herUpon P o a K ((execOp a.eval o).run P w)
attribute [go_sem] herOp herUpon

theorem herOp_mono {o : Oper} {a : Act} {w : World} {K K' : Act → World → Prop} (h : ∀ a w, K a w → K' a w) (hh : herOp P o a w K) : herOp P o a w K' := by
  unfold herOp at *
  generalize (execOp a.eval o).run P w = r at *
  cases r with
  | ok n w' =>
    cases n <;> simp only [herUpon] at hh ⊢
    case enter f args => exact Calls.mono hh fun e w'' ⟨v, he, hk⟩ => ⟨v, he, h _ _ hk⟩
    all_goals exact h _ _ hh
  | halt x w' => simp only [herUpon] at hh

/-- The tail: the operations one behind the other, each in whatever later world. -/
def wpT (P : Program) (ops : Array Oper) (R : World → World → Prop) (Q : Act → World → Prop) : List Oper → Act → World → Prop
  | [], a, w => ∀ w', R w w' → Q a w'
  | o :: rest, a, w => ∀ w', R w w' → if Region.wanted o (yielded ops a.tmps) then herOp P o a w' (fun a'' w'' => R w' w'' ∧ wpT P ops R Q rest a'' w'') else wpT P ops R Q rest (a.put o.dst undef) w'

/-- One operation whose number is i, in whatever order the others come. -/
def herAt (P : Program) (ops : Array Oper) (i : Nat) (K : Act → World → Prop) (a : Act) (w : World) : Prop :=
  match ops[i]? with
  | none => K a w
  | some o => if Region.wanted o (yielded ops a.tmps) then herOp P o a w K else K (a.put o.dst undef) w

theorem herAt_mono {i : Nat} {a : Act} {w : World} {K K' : Act → World → Prop} (h : ∀ a w, K a w → K' a w) (hh : herAt P ops i K a w) : herAt P ops i K' a w := by
  unfold herAt at *
  split
  · exact h _ _ (by simpa [*] using hh)
  · rename_i o ho
    simp only [ho] at hh
    split
    · rename_i hw; simp only [hw, if_true] at hh; exact herOp_mono h hh
    · rename_i hw; simp only [hw] at hh; exact h _ _ hh

def wpHer (P : Program) (md : Region.Mode) (ops : Array Oper) (R : World → World → Prop) (Q : Act → World → Prop) : Nat → Array Bool → Act → World → Prop
  | 0, listed, a, w => ∀ w', R w w' → Region.ready md ops listed = [] ∧ Q a w'
  | fuel + 1, listed, a, w => ∀ w', R w w' → (Region.ready md ops listed = [] → Q a w') ∧
      ∀ i ∈ Region.ready md ops listed, herAt P ops i (fun a'' w'' => R w' w'' ∧ wpHer P md ops R Q fuel (listed.setIfInBounds i true) a'' w'') a w'

theorem wpHer_later (hR : Steady R) {Q : Act → World → Prop} {fuel : Nat} {listed : Array Bool} {a : Act} {w w' : World} (h : wpHer P md ops R Q fuel listed a w) (hw : R w w') : wpHer P md ops R Q fuel listed a w' := by
  cases fuel with
  | zero => exact fun w2 h2 => h w2 (hR.2 _ _ _ hw h2)
  | succ n => exact fun w2 h2 => h w2 (hR.2 _ _ _ hw h2)

theorem wpOp_of_herAt {i : Nat} {a : Act} {w : World} {K : Act → World → Prop} {K' : Act → World → Prop} {Q' : Exit → Act → World → Prop} (h : ∀ a w, K a w → K' a w) (hh : herAt P ops i K a w) : wpOp P ops Q' i K' a w := by
  unfold herAt at hh
  unfold wpOp
  split
  · rename_i ho; simp only [ho] at hh; exact h _ _ hh
  · rename_i o ho
    simp only [ho] at hh
    split
    · rename_i hw
      simp only [hw, if_true] at hh
      refine .inl ?_
      unfold herOp at hh
      unfold Oper.wp
      generalize (execOp a.eval o).run P w = r at *
      cases r with
      | ok n w' =>
        cases n <;> simp only [herUpon] at hh <;> simp only [Oper.upon]
        case enter f args => exact Calls.mono hh fun e w'' ⟨v, he, hk⟩ => by subst he; exact h _ _ hk
        all_goals exact h _ _ hh
      | halt x w' => simp only [herUpon] at hh
    · rename_i hw; simp only [hw] at hh; exact h _ _ hh

theorem wpAny_of_her (hR : Steady R) {Q : Act → World → Prop} {Q' : Exit → Act → World → Prop} (hQ : ∀ a w, Q a w → Q' .normal a w) : ∀ (fuel : Nat) (listed : Array Bool) (a : Act) (w : World),
    wpHer P md ops R Q fuel listed a w → wpAny P md ops Q' fuel listed a w
  | 0, _, _, w, h => ⟨(h w (hR.1 w)).1, hQ _ _ (h w (hR.1 w)).2⟩
  | fuel + 1, _, _, w, h => ⟨fun h0 => hQ _ _ ((h w (hR.1 w)).1 h0), fun i hi => wpOp_of_herAt (fun a' w' h' => wpAny_of_her hR hQ fuel _ a' w' h'.2) ((h w (hR.1 w)).2 i hi)⟩

/-- A fixed value, in whatever later world. -/
def YieldsH (P : Program) (ops : Array Oper) (R : World → World → Prop) (w : World) (o : Oper) (v : Value) (a : Act) : Prop :=
  (Region.wanted o (yielded ops a.tmps) = true ∧ ∀ w0, R w w0 → o.quietAt P a (R w0) w0 v) ∨ (Region.wanted o (yielded ops a.tmps) = false ∧ v = undef)
theorem YieldsH.of_same {o : Oper} {v : Value} {a a' : Act} {w : World} (hy : YieldsH P ops R w o v a) (he : execOp a'.eval o = execOp a.eval o)
    (hw : Region.wanted o (yielded ops a'.tmps) = Region.wanted o (yielded ops a.tmps)) : YieldsH P ops R w o v a' := by
  unfold YieldsH Oper.quietAt at *
  rw [he, hw]
  exact hy
theorem YieldsH.later (hR : Steady R) {o : Oper} {v : Value} {a : Act} {w w' : World} (hy : YieldsH P ops R w o v a) (h : R w w') : YieldsH P ops R w' o v a :=
  hy.imp (fun ⟨h1, h2⟩ => ⟨h1, fun w0 h0 => h2 w0 (hR.2 _ _ _ h h0)⟩) id
theorem herAt_yields (hR : Steady R) {i : Nat} {o : Oper} {v : Value} {a : Act} {w : World} (hi : ops[i]? = some o) (hy : YieldsH P ops R w o v a) {K : Act → World → Prop}
    (hK : ∀ w', R w w' → K (a.put o.dst v) w') : herAt P ops i K a w := by
  unfold herAt
  simp only [hi]
  rcases hy with ⟨hw, hv⟩ | ⟨hw, rfl⟩
  · simp only [hw, if_true]
    have h1 := hv w (hR.1 w)
    unfold Oper.quietAt at h1
    unfold herOp
    generalize (execOp a.eval o).run P w = r at *
    cases r with
    | ok n w' =>
      cases n <;> simp only [Oper.quietUpon] at h1 <;> simp only [herUpon]
      case value u => obtain ⟨e1, e2⟩ := h1; rw [e1, e2]; exact hK _ (hR.1 w)
      case skip => obtain ⟨e1, e2⟩ := h1; rw [e1, ← e2]; exact hK _ (hR.1 w)
      case enter f args =>
        obtain ⟨e1, hc⟩ := h1
        rw [e1]
        exact hc.mono fun e w'' ⟨he, hw''⟩ => ⟨v, he, hK _ hw''⟩
    | halt x w' => simp only [Oper.quietUpon] at h1
  · simp only [hw, Bool.false_eq_true, if_false]; exact hK _ (hR.1 w)

theorem herAt_put {j : Nat} {oi oj : Oper} {v : Value} {w w1 : World} (hj : ops[j]? = some oj) (hap : oi.apart ops oj = true) (hsi : ∀ cs b, oi.op ≠ .select cs b) (hsj : ∀ cs b, oj.op ≠ .select cs b) {K : Act → World → Prop} {a : Act} 
    (hy : YieldsH P ops R w1 oi v a) (h : herAt P ops j K (a.put oi.dst v) w) : herAt P ops j (fun a' w' => YieldsH P ops R w1 oi v a' ∧ K (a'.put oi.dst v) w') a w := by
  obtain ⟨h1, h2, h3⟩ := Oper.apart_spec hap
  have keep : ∀ (a : Act), YieldsH P ops R w1 oi v a → ∀ u, YieldsH P ops R w1 oi v (a.put oj.dst u) := fun a hy u =>
    hy.of_same (execOp_put oi hsi a oj.dst u h3) (wanted_put oi a oj.dst u h3)
  unfold herAt at *
  simp only [hj] at *
  rw [wanted_put oj a oi.dst v h1] at h
  split
  · rename_i hw
    simp only [hw, if_true] at h
    unfold herOp at *
    rw [execOp_put oj hsj a oi.dst v h1] at h
    generalize (execOp a.eval oj).run P w = r at *
    cases r with
    | ok n w' =>
      cases n <;> simp only [herUpon] at h ⊢
      case enter f args => exact Calls.mono h fun e w'' ⟨u, he, hk⟩ => ⟨u, he, keep a hy u, by rw [← Act.put_comm a v u h2]; exact hk⟩
      all_goals exact ⟨keep a hy _, by rw [← Act.put_comm a v _ h2]; exact h⟩
    | halt x w' => simp only [herUpon] at h
  · rename_i hw
    simp only [hw] at h
    exact ⟨keep a hy _, by rw [← Act.put_comm a v undef h2]; exact h⟩

/-- An operation of a fixed value may be taken first. -/
theorem wpHer_first (hR : Steady R) {Q : Act → World → Prop} {i : Nat} {oi : Oper} {v : Value} (hi : ops[i]? = some oi) (hsel : ∀ (j : Nat) (o : Oper) cs b, ops[j]? = some o → o.op ≠ .select cs b) :
    ∀ (fuel : Nat) (listed : Array Bool) (a : Act) (w : World),
      (∀ j oj, ops[j]? = some oj → j ≠ i → listed.getD j true = false → (∀ e ∈ oj.after, Region.binds md e = true → e.on ≠ i) → oi.apart ops oj = true) →
      i ∈ Region.ready md ops listed → YieldsH P ops R w oi v a →
      wpHer P md ops R Q fuel (listed.setIfInBounds i true) (a.put oi.dst v) w → wpHer P md ops R Q (fuel + 1) listed a w := by
  intro fuel
  induction fuel with
  | zero =>
    intro listed a w _ hr hy H w0 h0
    refine ⟨fun h => (by rw [h] at hr; cases hr), fun j hj => ?_⟩
    by_cases hji : j = i
    · subst hji
      exact herAt_yields hR hi (hy.later hR h0) fun w' hw' => ⟨hw', wpHer_later hR H (hR.2 _ _ _ h0 hw')⟩
    · have := ready_mono hj hji
      rw [(H w0 h0).1] at this
      cases this
  | succ fuel ih =>
    intro listed a w hfree hr hy H w0 h0
    refine ⟨fun h => (by rw [h] at hr; cases hr), fun j hj => ?_⟩
    by_cases hji : j = i
    · subst hji
      exact herAt_yields hR hi (hy.later hR h0) fun w' hw' => ⟨hw', wpHer_later hR H (hR.2 _ _ _ h0 hw')⟩
    · have h1 := (H w0 h0).2 j (ready_mono hj hji)
      obtain ⟨hjun, oj, hoj, hall⟩ := mem_ready.1 hj
      have hnot : ∀ e ∈ oj.after, Region.binds md e = true → e.on ≠ i := fun e he hb heq => by
        have h1 := hall e he hb
        have h0 := (mem_ready.1 hr).1
        rw [heq] at h1
        rcases Nat.lt_or_ge i listed.size with h' | h'
        · simp [h'] at h0 h1; rw [h0] at h1; cases h1
        · simp [Array.getElem?_eq_none h'] at h1
      have hfree' : ∀ k ok, ops[k]? = some ok → k ≠ i → (listed.setIfInBounds j true).getD k true = false →
          (∀ e ∈ ok.after, Region.binds md e = true → e.on ≠ i) → oi.apart ops ok = true := fun k ok hk hki hun hno => by
        refine hfree k ok hk hki ?_ hno
        by_cases hjk : j = k
        · subst hjk; exact hjun
        · rw [Go.getD_set_ne true hjk] at hun; exact hun
      have hap := hfree j oj hoj hji hjun hnot
      have hsi := fun cs b => hsel i oi cs b hi
      have h2 := herAt_put hoj hap hsi (fun cs b => hsel j oj cs b hoj) (hy.later hR h0) h1
      refine herAt_mono (fun a' w' h3 => ⟨h3.2.1, ih (listed.setIfInBounds j true) a' w' hfree' (ready_mono hr (Ne.symm hji)) (h3.1.later hR h3.2.1) ?_⟩) h2
      rw [Array.setIfInBounds_comm _ _ hji]
      exact h3.2.2

/-- The tail, where each operation is the only one that may come up. -/
def tailB (md : Region.Mode) (ops : Array Oper) : List Nat → Array Bool → Bool
  | [], listed => (Region.ready md ops listed).isEmpty
  | i :: is, listed => decide (Region.ready md ops listed = [i]) && tailB md ops is (listed.setIfInBounds i true)
def headB (md : Region.Mode) (ops : Array Oper) : List Nat → List Nat → Array Bool → Bool
  | [], ts, listed => tailB md ops ts listed
  | i :: is, ts, listed => (Region.ready md ops listed).contains i && Region.free md ops listed i && headB md ops is ts (listed.setIfInBounds i true)

theorem wpHer_tail (hR : Steady R) {Q : Act → World → Prop} : ∀ (is : List Nat) (l : List Oper) (listed : Array Bool) (a : Act) (w : World), is.map (ops[·]?) = l.map some → tailB md ops is listed = true → wpT P ops R Q l a w → wpHer P md ops R Q l.length listed a w
  | [], [], _, _, _, _, hB, h => fun w' hw' => ⟨by simpa [tailB] using hB, h w' hw'⟩
  | [], _ :: _, _, _, _, he, _, _ => by simp at he
  | _ :: _, [], _, _, _, he, _, _ => by simp at he
  | i :: is, o :: l, listed, a, w, he, hB, h => fun w' hw' => by
    simp only [List.map_cons, List.cons.injEq] at he
    simp only [tailB, Bool.and_eq_true, decide_eq_true_eq] at hB
    refine And.intro (fun h0 => by rw [hB.1] at h0; cases h0) (fun j hj => ?_)
    rw [hB.1] at hj
    obtain rfl : j = i := by simpa using hj
    have h1 := h w' hw'
    unfold herAt
    simp only [he.1]
    split
    · rename_i hw
      simp only [hw, if_true] at h1
      exact herOp_mono (fun a w h => ⟨h.1, wpHer_tail hR is l _ _ _ he.2 hB.2 h.2⟩) h1
    · rename_i hw
      simp only [hw] at h1
      exact ⟨hR.1 _, wpHer_tail hR is l _ _ _ he.2 hB.2 h1⟩
/-- The head: the operations of a fixed value. -/
def qH (P : Program) (o : Oper) (a : Act) (R : World → World → Prop) (w : World) (K : Act → Prop) : Prop := ∃ v, (∀ w0, R w w0 → o.quietAt P a (R w0) w0 v) ∧ K (a.put o.dst v)
def wpH (P : Program) (ops : Array Oper) (R : World → World → Prop) (w : World) (Q : Act → Prop) : List Oper → Act → Prop
  | [], a => Q a
  | o :: rest, a => if Region.wanted o (yielded ops a.tmps) then qH P o a R w (wpH P ops R w Q rest) else wpH P ops R w Q rest (a.put o.dst undef)
theorem wpH_nil {w : World} {Q : Act → Prop} {a : Act} (h : Q a) : wpH P ops R w Q [] a := h
theorem wpH_step {w : World} {Q : Act → Prop} {a : Act} {o : Oper} {rest : List Oper}
    (h : ∀ K : Act → Prop, (∀ a, wpH P ops R w Q rest a → K a) → if Region.wanted o (yielded ops a.tmps) then qH P o a R w K else K (a.put o.dst undef)) : wpH P ops R w Q (o :: rest) a :=
  h _ (fun _ h => h)
theorem wpT_nil {Q : Act → World → Prop} {a : Act} {w : World} (h : ∀ w', R w w' → Q a w') : wpT P ops R Q [] a w := h
theorem wpT_step {Q : Act → World → Prop} {a : Act} {w : World} {o : Oper} {rest : List Oper}
    (h : ∀ w', R w w' → ∀ K : Act → World → Prop, (∀ a'' w'', R w' w'' → wpT P ops R Q rest a'' w'' → K a'' w'') → if Region.wanted o (yielded ops a.tmps) then herOp P o a w' K else K (a.put o.dst undef) w') : wpT P ops R Q (o :: rest) a w := fun w' hw' => by
  have := h w' hw' (fun a'' w'' => R w' w'' ∧ wpT P ops R Q rest a'' w'') (fun a'' w'' h1 h2 => ⟨h1, h2⟩)
  split
  · rename_i hw; rw [if_pos hw] at this; exact this
  · rename_i hw; rw [if_neg hw] at this; exact this.2
theorem wpHer_head (hR : Steady R) {Q : Act → World → Prop} (hs : Region.noSelect ops = true) : ∀ (qs ts : List Nat) (lq lt : List Oper) (listed : Array Bool) (a : Act) (w : World), qs.map (ops[·]?) = lq.map some → ts.map (ops[·]?) = lt.map some →
    headB md ops qs ts listed = true → wpH P ops R w (fun a' => wpT P ops R Q lt a' w) lq a → wpHer P md ops R Q (lq.length + lt.length) listed a w
  | [], ts, [], lt, listed, a, w, _, ht, hB, h => by rw [List.length_nil, Nat.zero_add]; exact wpHer_tail hR ts lt listed a w ht hB h
  | [], _, _ :: _, _, _, _, _, he, _, _, _ => by simp at he
  | _ :: _, _, [], _, _, _, _, he, _, _, _ => by simp at he
  | i :: is, ts, o :: l, lt, listed, a, w, he, ht, hB, h => by
    simp only [List.map_cons, List.cons.injEq] at he
    simp only [headB, Bool.and_eq_true] at hB
    obtain ⟨⟨hr, hf⟩, hB'⟩ := hB
    rw [List.length_cons, show l.length + 1 + lt.length = (l.length + lt.length) + 1 from by omega]
    unfold wpH at h
    by_cases hw : Region.wanted o (yielded ops a.tmps) = true
    · rw [if_pos hw] at h
      obtain ⟨v, hv, hK⟩ := h
      exact wpHer_first hR he.1 (Region.noSelect_spec hs) (l.length + lt.length) listed a w (Region.free_spec he.1 hf) (by simpa using hr) (.inl ⟨hw, hv⟩) (wpHer_head hR hs is ts l lt _ _ _ he.2 ht hB' hK)
    · rw [if_neg hw] at h
      exact wpHer_first hR he.1 (Region.noSelect_spec hs) (l.length + lt.length) listed a w (Region.free_spec he.1 hf) (by simpa using hr) (.inr ⟨by simpa using hw, rfl⟩) (wpHer_head hR hs is ts l lt _ _ _ he.2 ht hB' h)
def selB {α : Type} : List Bool → List α → List α
  | b :: bs, x :: xs => match b with
    | true => x :: selB bs xs
    | false => selB bs xs
  | _, _ => []
def notB : List Bool → List Bool := List.map not
theorem selB_map (mask : List Bool) : ∀ (l : List Oper) (k : Nat), (∀ j, l[j]? = ops[k + j]?) → (selB mask (List.range' k l.length)).map (ops[·]?) = (selB mask l).map some := by
  induction mask with
  | nil => intro l k _; cases l <;> simp [selB]
  | cons b bs ih =>
    intro l k h
    cases l with
    | nil => simp [selB]
    | cons o l =>
      have h0 : ops[k]? = some o := by simpa using (h 0).symm
      have h1 := ih l (k + 1) (fun j => by have := h (j + 1); simpa [Nat.add_assoc, Nat.add_comm 1 j] using this)
      cases b <;> simp [selB, List.range'_succ, h0, h1]
def LaterW (w w' : World) : Prop := ∃ x, w' = ovr w x
theorem laterW_steady : Steady LaterW := ⟨fun x => ⟨x, (ovr_of (Below.refl _ _)).symm⟩, fun x y z ⟨p, hp⟩ ⟨q, hq⟩ => by
  subst hp; subst hq
  exact (Ext.trans (ovr_below x p) (ovr_below (ovr x p) q)).ex⟩
/-- A region that draws: those marked true first, the rest behind them. -/
theorem wp_region_her {id : Nat} {Q : Exit → Act → World → Prop} {a : Act} {w : World} {l : List Oper} (mask : List Bool) (hm : P.follows .mixedOrders = true)
    (hB : (Region.noSelect l.toArray && decide ((selB mask l).length + (selB (notB mask) l).length = l.length) && headB .any l.toArray (selB mask (List.range' 0 l.length)) (selB (notB mask) (List.range' 0 l.length)) (Array.replicate l.length false)) = true)
    (h : wpH P l.toArray LaterW w (fun a' => wpT P l.toArray LaterW (fun a'' w'' => Q .normal a'' w'') (selB (notB mask) l) a' w) (selB mask l) a) : (Code.region id l.toArray true).wp P Q a w := by
  simp only [Bool.and_eq_true, decide_eq_true_eq] at hB
  obtain ⟨⟨h1, h2⟩, h3⟩ := hB
  refine wp_region_any hm ?_
  have h4 := wpHer_head (md := .any) laterW_steady h1 _ _ (selB mask l) (selB (notB mask) l) (Array.replicate l.length false) a w (selB_map mask l 0 (by simp)) (selB_map (notB mask) l 0 (by simp)) h3 h
  rw [h2] at h4
  have h5 := wpHer_later laterW_steady h4 (w' := w.drew) ⟨w.drew, (ovr_of (Below.drew (Below.refl _ _))).symm⟩
  simpa using wpAny_of_her laterW_steady (fun a w h => h) _ _ _ _ h5
theorem later_ext {w w' : World} (h : LaterW w w') : Ext w w' := by obtain ⟨x, rfl⟩ := h; exact ovr_below _ _
attribute [go_sem] LaterW qH
end
end Go.Proofs.Ytkifapcegiajiaa
