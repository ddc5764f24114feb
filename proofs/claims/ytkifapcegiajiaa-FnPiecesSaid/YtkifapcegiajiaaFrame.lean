/-
  The frame of every law of this claim: arguments opened (integers, structs of integers, slices of these), and the row closed once the call returns true and only makes new memory. No condition.
-/
import Derived.Test.YtkifapcegiajiaaRows
import Derived.Test.YtkifapcegiajiaaRow
import Derived.ProofKit
import Derived.OpenShut
import Derived.WideKeyArgs
import Derived.Deep.Slices
namespace Go.Proofs.Ytkifapcegiajiaa
open Go.ChangeShapes Go.WideShapes Go.ChangeAt Go.RowKit Go.Deep

theorem own : ownKnob Try.prog.godebug = none := by kernel_rfl
theorem laidOut : laidOutB Try.prog = true := by kernel_rfl

section
variable {H : Type} {enc : TypeId × Value → H} {P : Program}

theorem trodAll_ext (hl : laidOutB P = true) {W W' : World} (hext : Ext W W') (sp : Nat → Bool) : ∀ (ts : List TypeId) (vs : List Value) (ds : List (DataW H)) (ps : List MemPlace),
    (ts.all fun t => P.readableRec t && decide (t < P.types.size)) = true → DataW.TrodAll enc P W 0 (fun _ => true) true ts vs ds ps → (∀ x ∈ ps, x.block < W.heap.size) → (∀ p ∈ ps, sp p.block = true) →
    DataW.TrodAll enc P W' 0 sp true ts vs ds ps
  | [], vs, ds, ps, _, h, _, _ => by
    obtain ⟨rfl, rfl, rfl⟩ := trodAll_nil h
    exact rfl
  | t :: ts, vs, ds, ps, ht, h, hlt, hsp => by
    obtain ⟨v, vs', d, ds', p, q, rfl, rfl, rfl, h1, h2⟩ := trodAll_cons h
    simp only [List.all_cons, Bool.and_eq_true, decide_eq_true_eq] at ht
    refine trodAll_cons_mk (WideElems.Trod_stays hl ht.1.1 ht.1.2 h1 (fun x hx => Below.same hext (hlt x (by simp [hx]))) (fun x hx => hsp x (by simp [hx]))) ?_
    exact trodAll_ext hl hext sp ts vs' ds' q ht.2 h2 (fun x hx => hlt x (by simp [hx])) (fun x hx => hsp x (by simp [hx]))

theorem post_true {f : Func} {s : ChangeSpec} {W W' : World} {args : Array Value} {ds gs : List (DataW H)} {before : List MemPlace} {tb : TypeId} (hl : laidOutB P = true)
    (hts : (f.params.toList.all fun t => P.readableRec t && decide (t < P.types.size)) = true) (hvars : s.vars = []) (hfn : s.fn H (ds ++ gs) = { results := [.lit (.bool true)], args := ds })
    (hres : f.resultTypes = #[tb]) (htb : P.underlying tb = some .bool) (hW : DataW.Whole enc P f.params.toList s.vars false W args.toList ds gs before) (hext : Ext W W') :
    s.post enc P f false true false false W args (.bool true) W' := by
  have hW0 := hW
  obtain ⟨p, q, hA, hV, rfl, hfz, hnd⟩ := hW
  rw [hvars] at hV
  obtain ⟨rfl, rfl⟩ := trodVars_none hV
  have hlt : ∀ x ∈ p ++ [], x.block < W.heap.size := fun x hx => hW0.lt x hx
  have hp : ∀ x ∈ p, x.block < W.heap.size := fun x hx => hlt x (by simp [hx])
  refine ⟨ds, [], p ++ [], [], p, [], hW0, ?_, ?_, ?_, Below.frame hext _, fun h => by cases h⟩
  · rw [hfn, hres]
    exact trodAll_cons_mk (p := []) (p' := []) (shut_bool htb _) trodAll_mk0
  · rw [hfn]
    exact trodAll_ext hl hext _ _ _ _ _ hts hA hp (fun x hx => by simpa using hp x hx)
  · rw [hfn, hvars]
    rfl

/-! ### Types whose cells are all of kind int -/
def flatInts (P : Program) : Nat → TypeId → Bool
  | 0, _ => false
  | f + 1, t => match P.underlying t with
    | some (.int .i64) => decide (P.cellsOf t = 1)
    | some (.struct fs) => (fs.all fun fd => flatInts P f fd.type) && ((List.range (P.cellsOf t)).all fun j => fs.any fun fd => decide (fd.offset ≤ j) && decide (j < fd.offset + P.cellsOf fd.type))
    | _ => false

theorem flat_cells {w : World} {base : Nat} {spare : Nat → Bool} {held : Bool} : ∀ (f : Nat) (t : TypeId) (fuel : Nat) (cs : List Value) (x : DataW H × List MemPlace), flatInts P f t = true →
    DataW.trod enc P w base spare held fuel t cs = some x → cs.length = P.cellsOf t ∧ ∀ c ∈ cs, ∃ z, c = .int .i64 z ∧ (Lit.int .i64 z).wf = true
  | 0, t, fuel, cs, x, hf, _ => by simp [flatInts] at hf
  | f + 1, t, fuel, cs, x, hf, h => by
    unfold flatInts at hf
    split at hf
    · rename_i hu
      obtain ⟨z, rfl, hx, hz⟩ := DataW.trod_int hu h
      exact ⟨by rw [of_decide_eq_true hf]; rfl, fun c hc => ⟨z, by simpa using hc, hz⟩⟩
    · rename_i fs hu
      obtain ⟨xs, n, _, _, hlen, hxl, hall⟩ := DataW.trod_struct hu h
      refine ⟨hlen, fun c hc => ?_⟩
      obtain ⟨j, hj, rfl⟩ := List.getElem_of_mem hc
      simp only [Bool.and_eq_true, List.all_eq_true, List.mem_range, Array.any_eq_true, decide_eq_true_eq, Array.all_eq_true] at hf
      obtain ⟨i, hi, h1, h2⟩ := hf.2 j (by omega)
      have h3 := hall i fs[i] (by simp [hi])
      have hx : xs[i]? = some (xs[i]'(by omega)) := List.getElem?_eq_getElem (by omega)
      rw [hx] at h3
      refine (flat_cells f _ _ _ _ (hf.1 i hi) h3).2 cs[j] ?_
      rw [List.mem_iff_getElem?]
      exact ⟨j - fs[i].offset, by rw [List.getElem?_take, if_pos (by omega), List.getElem?_drop, show fs[i].offset + (j - fs[i].offset) = j from by omega, List.getElem?_eq_getElem hj]⟩
    · cases hf

theorem flat_list {cs : List Value} (h : ∀ c ∈ cs, ∃ z, c = .int .i64 z ∧ (Lit.int .i64 z).wf = true) : ∃ zs : List Int, cs = zs.map (Value.int .i64) ∧ ∀ z ∈ zs, i64r z := by
  induction cs with
  | nil => exact ⟨[], rfl, by simp⟩
  | cons c cs ih =>
    obtain ⟨z, rfl, hz⟩ := h c (by simp)
    obtain ⟨zs, rfl, hb⟩ := ih (fun c hc => h c (by simp [hc]))
    refine ⟨z :: zs, rfl, ?_⟩
    intro y hy
    rcases List.mem_cons.1 hy with rfl | hy
    · unfold i64r; simpa [Lit.wf, IntKind.min, IntKind.max, IntKind.signed, IntKind.bits] using hz
    · exact hb y hy
theorem open_flat {w : World} {base : Nat} {spare : Nat → Bool} {held : Bool} {r : Reach} {b0 f n : Nat} {t : TypeId} {fs : Array Field} {v : Value} {d : DataW H} {p : List MemPlace} (hf : flatInts P f t = true)
    (hu : P.underlying t = some (.struct fs)) (hn : P.cellsOf t = n) (hv : Value.okWide P w r b0 t v) (h : DataW.Trod enc P w base spare held t v d p) :
    ∃ zs : List Int, v = .agg (zs.map (Value.int .i64)).toArray ∧ zs.length = n ∧ ∀ z ∈ zs, i64r z := by
  obtain ⟨cs, rfl, hsz⟩ := okWide_struct hu hv
  obtain ⟨fuel, hf'⟩ := h
  obtain ⟨h1, h2⟩ := flat_cells f t fuel _ _ hf hf'
  obtain ⟨zs, h3, h4⟩ := flat_list h2
  have h5 : cs.toList = zs.map (Value.int .i64) := by simpa [Value.cells] using h3
  refine ⟨zs, ?_, ?_, h4⟩
  · congr 1
    rw [← h5]
  · have := congrArg List.length h5
    simp at this
    omega

theorem i64r_of {z : Int} (h : (Lit.int .i64 z).wf = true) : i64r z := by unfold i64r; simpa [Lit.wf, IntKind.min, IntKind.max, IntKind.signed, IntKind.bits] using h
theorem list2 {l : List Int} (h : l.length = 2) : ∃ a b, l = [a, b] := match l, h with | [a, b], _ => ⟨a, b, rfl⟩
theorem list3 {l : List Int} (h : l.length = 3) : ∃ a b c, l = [a, b, c] := match l, h with | [a, b, c], _ => ⟨a, b, c, rfl⟩
theorem list7 {l : List Int} (h : l.length = 7) : ∃ a b c d e f g, l = [a, b, c, d, e, f, g] := match l, h with | [a, b, c, d, e, f, g], _ => ⟨a, b, c, d, e, f, g, rfl⟩
theorem add_none (b off j : Nat) : (⟨b, off, none⟩ : Addr).add j = ⟨b, off + j, none⟩ := by unfold Addr.add; split <;> simp_all
theorem open_flat_slice {w : World} {base : Nat} {spare : Nat → Bool} {held : Bool} {r : Reach} {b0 f m : Nat} {t e : TypeId} {v : Value} {d : DataW H} {p : List MemPlace} (ht : P.underlying t = some (.slice e)) (hf : flatInts P f e = true)
    (hm : P.cellsOf e = m) (hv : Value.okWide P w r b0 t v) (h : DataW.Trod enc P w base spare held t v d p) :
    ∃ A n c, ∃ zs : List Int, v = .slice A n c ∧ zs.length = n * m ∧ n ≤ maxLen ∧ Row w A (zs.map (Value.int .i64)) ∧ ∀ z ∈ zs, i64r z := by
  obtain ⟨A, n, c, rfl⟩ := okWide_slice ht hv
  obtain ⟨fuel, hf'⟩ := h
  rcases open_slice ht hf' with ⟨hcs, _⟩ | ⟨a, len, cap, m', n', D, Pl, hcs, _, hl, hcap, hmm, _, hall⟩
  · simp only [Value.cells, List.cons.injEq, Value.slice.injEq] at hcs
    obtain ⟨⟨rfl, rfl, rfl⟩, _⟩ := hcs
    exact ⟨none, 0, 0, [], rfl, by simp, Nat.zero_le _, Row.nil _ _, by simp⟩
  · have hcs' : A = some a ∧ n = len ∧ c = cap := by simpa [Value.cells] using hcs
    obtain ⟨rfl, rfl, rfl⟩ := hcs'
    have hlm : n ≤ m' := by rw [hmm]; split <;> omega
    have key : ∀ k, k ≤ n → ∃ zs : List Int, zs.length = k * m ∧ (∀ j z, zs[j]? = some z → w.cell? (a.add j) = some (.int .i64 z)) ∧ ∀ z ∈ zs, i64r z := by
      intro k
      induction k with
      | zero => exact fun _ => ⟨[], by simp, by simp, by simp⟩
      | succ k ih =>
        intro hk
        obtain ⟨zs, h1, h2, h3⟩ := ih (by omega)
        obtain ⟨cs', hc, ht'⟩ := hall k (by omega)
        rw [hm] at hc
        obtain ⟨_, hlen, hcell⟩ := World.cells?_some hc
        obtain ⟨_, h4⟩ := flat_cells f e _ _ _ hf ht'
        obtain ⟨ys, rfl, h5⟩ := flat_list h4
        have hyl : ys.length = m := by simpa using hlen
        refine ⟨zs ++ ys, by rw [List.length_append, h1, hyl, Nat.add_mul]; omega, fun j z hz => ?_, fun z hz => ?_⟩
        · rw [List.getElem?_append] at hz
          split at hz
          · exact h2 j z hz
          · rename_i hj
            have hjl : j - zs.length < ys.length := (List.getElem?_eq_some_iff.1 hz).1
            have := hcell (j - zs.length) (by omega)
            rw [Go.Deep.add_add, h1, show k * m + (j - k * m) = j from by omega] at this
            rw [this]
            rw [h1] at hz
            simp [hz]
        · rcases List.mem_append.1 hz with hz | hz
          · exact h3 z hz
          · exact h5 z hz
    obtain ⟨zs, h1, h2, h3⟩ := key n (Nat.le_refl _)
    refine ⟨some a, n, c, zs, rfl, h1, by omega, fun hne => ?_, h3⟩
    have hp : 0 < zs.length := by rcases zs with _ | ⟨z, zs⟩ <;> simp at hne ⊢
    have h0 := h2 0 zs[0] (List.getElem?_eq_getElem hp)
    obtain ⟨b, off, sp⟩ := a
    have hsp : sp = none := by
      cases sp with
      | none => rfl
      | some s =>
        exfalso
        rw [show (⟨b, off, some s⟩ : Addr).add 0 = ⟨b, off, some s⟩ from by unfold Addr.add; simp] at h0
        unfold World.cell? at h0
        split at h0 <;> simp at h0
    subst hsp
    refine ⟨b, off, rfl, fun j u hu => ?_⟩
    rw [List.getElem?_map, Option.map_eq_some_iff] at hu
    obtain ⟨z, hz, rfl⟩ := hu
    rw [← add_none]
    exact h2 j z hz
end
end Go.Proofs.Ytkifapcegiajiaa
