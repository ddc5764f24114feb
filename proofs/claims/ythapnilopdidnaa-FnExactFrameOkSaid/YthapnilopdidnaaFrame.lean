/-
  The frame of every law of this claim: arguments opened (integers, structs of integers, slices of these), and the row closed once the call returns true and only makes new memory. No condition.
-/
import Derived.Test.YthapnilopdidnaaRows
import Derived.Test.YthapnilopdidnaaKit
import Derived.ProofKit
import Derived.OpenShut
import Derived.WideKeyArgs
import Derived.Deep.Slices
namespace Go.Proofs.Ythapnilopdidnaa
open Go.ChangeShapes Go.WideShapes Go.ChangeAt Go.RowKit Go.Deep

theorem own : ownKnob Try.prog.godebug = none := by kernel_rfl
theorem laidOut : laidOutB Try.prog = true := by kernel_rfl

section
variable {H : Type} {enc : TypeId × Value → H} {P : Program}

theorem trodAll_ext (hl : laidOutB P = true) {W W' : World} (hext : Ext W W') (sp : Nat → Bool) : ∀ (ts : List TypeId) (vs : List Value) (ds : List (DataW H)) (ps : List MemPlace),
    (ts.all fun t => P.readableRec t && decide (t < P.types.size)) = true → DataW.TrodAll enc P W 0 (fun _ => true) true ts vs ds ps → (∀ x ∈ ps, x.block < W.heap.size) → (∀ p ∈ ps, sp p.block = true) →
    DataW.TrodAll enc P W' 0 sp true ts vs ds ps
  | [], vs, ds, ps, _, h, _, _ => by
    obtain ⟨rfl, rfl, rfl⟩ := trodAll_nil h
    exact rfl
  | t :: ts, vs, ds, ps, ht, h, hlt, hsp => by
    obtain ⟨v, vs', d, ds', p, q, rfl, rfl, rfl, h1, h2⟩ := trodAll_cons h
    simp only [List.all_cons, Bool.and_eq_true, decide_eq_true_eq] at ht
    refine trodAll_cons_mk (WideElems.Trod_stays hl ht.1.1 ht.1.2 h1 (fun x hx => Below.same hext (hlt x (by simp [hx]))) (fun x hx => hsp x (by simp [hx]))) ?_
    exact trodAll_ext hl hext sp ts vs' ds' q ht.2 h2 (fun x hx => hlt x (by simp [hx])) (fun x hx => hsp x (by simp [hx]))

theorem post_true {f : Func} {s : ChangeSpec} {W W' : World} {args : Array Value} {ds gs : List (DataW H)} {before : List MemPlace} {tb : TypeId} (hl : laidOutB P = true)
    (hts : (f.params.toList.all fun t => P.readableRec t && decide (t < P.types.size)) = true) (hvars : s.vars = []) (hfn : s.fn H (ds ++ gs) = { results := [.lit (.bool true)], args := ds })
    (hres : f.resultTypes = #[tb]) (htb : P.underlying tb = some .bool) (hW : DataW.Whole enc P f.params.toList s.vars false W args.toList ds gs before) (hext : Ext W W') :
    s.post enc P f false true false false W args (.bool true) W' := by
  have hW0 := hW
  obtain ⟨p, q, hA, hV, rfl, hfz, hnd⟩ := hW
  rw [hvars] at hV
  obtain ⟨rfl, rfl⟩ := trodVars_none hV
  have hlt : ∀ x ∈ p ++ [], x.block < W.heap.size := fun x hx => hW0.lt x hx
  have hp : ∀ x ∈ p, x.block < W.heap.size := fun x hx => hlt x (by simp [hx])
  refine ⟨ds, [], p ++ [], [], p, [], hW0, ?_, ?_, ?_, Below.frame hext _, fun h => by cases h⟩
  · rw [hfn, hres]
    exact trodAll_cons_mk (p := []) (p' := []) (shut_bool htb _) trodAll_mk0
  · rw [hfn]
    exact trodAll_ext hl hext _ _ _ _ _ hts hA hp (fun x hx => by simpa using hp x hx)
  · rw [hfn, hvars]
    rfl

/-! ### Types whose cells are all of kind int -/
def flatInts (P : Program) : Nat → TypeId → Bool
  | 0, _ => false
  | f + 1, t => match P.underlying t with
    | some (.int .i64) => decide (P.cellsOf t = 1)
    | some (.struct fs) => (fs.all fun fd => flatInts P f fd.type) && ((List.range (P.cellsOf t)).all fun j => fs.any fun fd => decide (fd.offset ≤ j) && decide (j < fd.offset + P.cellsOf fd.type))
    | _ => false

theorem flat_cells {w : World} {base : Nat} {spare : Nat → Bool} {held : Bool} : ∀ (f : Nat) (t : TypeId) (fuel : Nat) (cs : List Value) (x : DataW H × List MemPlace), flatInts P f t = true →
    DataW.trod enc P w base spare held fuel t cs = some x → cs.length = P.cellsOf t ∧ ∀ c ∈ cs, ∃ z, c = .int .i64 z ∧ (Lit.int .i64 z).wf = true
  | 0, t, fuel, cs, x, hf, _ => by simp [flatInts] at hf
  | f + 1, t, fuel, cs, x, hf, h => by
    unfold flatInts at hf
    split at hf
    · rename_i hu
      obtain ⟨z, rfl, hx, hz⟩ := DataW.trod_int hu h
      exact ⟨by rw [of_decide_eq_true hf]; rfl, fun c hc => ⟨z, by simpa using hc, hz⟩⟩
    · rename_i fs hu
      obtain ⟨xs, n, _, _, hlen, hxl, hall⟩ := DataW.trod_struct hu h
      refine ⟨hlen, fun c hc => ?_⟩
      obtain ⟨j, hj, rfl⟩ := List.getElem_of_mem hc
      simp only [Bool.and_eq_true, List.all_eq_true, List.mem_range, Array.any_eq_true, decide_eq_true_eq, Array.all_eq_true] at hf
      obtain ⟨i, hi, h1, h2⟩ := hf.2 j (by omega)
      have h3 := hall i fs[i] (by simp [hi])
      have hx : xs[i]? = some (xs[i]'(by omega)) := List.getElem?_eq_getElem (by omega)
      rw [hx] at h3
      refine (flat_cells f _ _ _ _ (hf.1 i hi) h3).2 cs[j] ?_
      rw [List.mem_iff_getElem?]
      exact ⟨j - fs[i].offset, by rw [List.getElem?_take, if_pos (by omega), List.getElem?_drop, show fs[i].offset + (j - fs[i].offset) = j from by omega, List.getElem?_eq_getElem hj]⟩
    · cases hf

theorem flat_list {cs : List Value} (h : ∀ c ∈ cs, ∃ z, c = .int .i64 z ∧ (Lit.int .i64 z).wf = true) : ∃ zs : List Int, cs = zs.map (Value.int .i64) ∧ ∀ z ∈ zs, -9223372036854775808 ≤ z ∧ z ≤ 9223372036854775807 := by
  induction cs with
  | nil => exact ⟨[], rfl, by simp⟩
  | cons c cs ih =>
    obtain ⟨z, rfl, hz⟩ := h c (by simp)
    obtain ⟨zs, rfl, hb⟩ := ih (fun c hc => h c (by simp [hc]))
    refine ⟨z :: zs, rfl, ?_⟩
    intro y hy
    rcases List.mem_cons.1 hy with rfl | hy
    · simpa [Lit.wf, IntKind.min, IntKind.max, IntKind.signed, IntKind.bits] using hz
    · exact hb y hy
theorem open_flat {w : World} {base : Nat} {spare : Nat → Bool} {held : Bool} {r : Reach} {b0 f n : Nat} {t : TypeId} {fs : Array Field} {v : Value} {d : DataW H} {p : List MemPlace} (hf : flatInts P f t = true)
    (hu : P.underlying t = some (.struct fs)) (hn : P.cellsOf t = n) (hv : Value.okWide P w r b0 t v) (h : DataW.Trod enc P w base spare held t v d p) :
    ∃ zs : List Int, v = .agg (zs.map (Value.int .i64)).toArray ∧ zs.length = n ∧ ∀ z ∈ zs, -9223372036854775808 ≤ z ∧ z ≤ 9223372036854775807 := by
  obtain ⟨cs, rfl, hsz⟩ := okWide_struct hu hv
  obtain ⟨fuel, hf'⟩ := h
  obtain ⟨h1, h2⟩ := flat_cells f t fuel _ _ hf hf'
  obtain ⟨zs, h3, h4⟩ := flat_list h2
  have h5 : cs.toList = zs.map (Value.int .i64) := by simpa [Value.cells] using h3
  refine ⟨zs, ?_, ?_, h4⟩
  · congr 1
    rw [← h5]
  · have := congrArg List.length h5
    simp at this
    omega
end
end Go.Proofs.Ythapnilopdidnaa
