/- Walks: slices.DeleteFunc of what is not in a list, on a row of the call's own. Conditions: at most 100 elements. -/
import Derived.Test.YtngniniiohgilaaHas
import Derived.Test.YtngniniiohgilaaInts
import Derived.Lib.SliceRun
namespace Go.Proofs.Ytngniniiohgilaa
open Go.RowKit
set_option linter.unusedVariables false

/-- What the closure is asked at every number. -/
def ClLAt (a1 : Nat) (w : World) (f : Int → Bool) : Prop := ∀ k w', Ext w w' → Gives Try.prog 48 #[.int .i64 k, .pointer (some ⟨a1, 0, none⟩)] w' (.bool (f k))
theorem clL_at {s : List Int} (B : Option Addr) (m d a1 : Nat) (w : World) (hs : Row w B (s.map (Value.int .i64))) (hm : s.length = m) (hy : m ≤ 1048577) (h1 : w.cell? ⟨a1, 0, none⟩ = some (.slice B m d)) : ClLAt a1 w (fun x => !memI s x) := by
  intro k w' he
  have c1 := old_cell he h1
  have HS := hid (hs.ext he)
  clear hs h1 he
  (unfold Gives; go_enter Try.func48, Try.ntmps48)
  go_wp2_with (go_at_call 49; refine (Contains_any _ _ _ s _ _ (HS.out.ext (by repeat (first | exact Ext.refl _ | refine Ext.alloc ?_ _ | assumption | refine Ext.over ?_ _ | refine Ext.drew ?_ | refine Ext.drewN ?_ _))) hm (by omega)).over.mono ?_; rintro e w' ⟨rfl, xw, rfl⟩)
  go_ret
  exact ⟨rfl, by repeat (first | exact Ext.refl _ | refine Ext.alloc ?_ _ | assumption | refine Ext.over ?_ _ | refine Ext.drew ?_ | refine Ext.drewN ?_ _)⟩
set_option maxHeartbeats 1600000 in
theorem IndexL_any (A : Option Addr) (n c : Nat) (l : List Int) (a1 : Nat) (f : Int → Bool) (w : World) (hl : Row w A (l.map (Value.int .i64))) (hn : l.length = n) (hx : n ≤ 9223372036854775807) (hf : ClLAt a1 w f) :
    Gives Try.prog 74 #[.slice A n c, .func (.func 48) #[] #[.pointer (some ⟨a1, 0, none⟩)]] w (.int .i64 (firstN l.length (fun j => f (atI l j)))) := by
  subst hn
  unfold Gives
  have HF := hid hf
  clear hf
  go_enter Try.func74, Try.ntmps74
  go_wp2_with fail
  go_loopw [8] (fun i wr => ∃ (k : Nat), (∀ j, j < k → f (atI l j) = false) ∧ k ≤ l.length ∧ i = .int .i64 ↑k ∧ Ext w wr) (fun i _ => (l.length - (intOf i).toNat))
  case atStart => exact ⟨0, by omega, by omega, rfl, Ext.refl _⟩
  case round =>
    obtain ⟨k, hk, hkn, rfl, he⟩ := hrel
    have HK := hid hk
    have HE := hid he
    obtain ⟨x, rfl⟩ := he.ex
    clear hk he
    by_cases hlt : k < l.length
    · obtain ⟨b, off, rfl, hc⟩ := hl.ints hlt
      have c1 := hc k hlt
      clear hc
      have he := HE.out
      cases hv : f (atI l k)
      · go_wp2_with (go_at_call 48; refine (HF.out (atI l k) _ he).over.mono ?_; rintro e w' ⟨rfl, xw, rfl⟩)
        go_roundw
        case rel =>
          refine ⟨k + 1, lt_succ_all HK.out hv, by omega, by go_num, ?_⟩
          repeat (first | exact Ext.refl _ | refine Ext.alloc ?_ _ | assumption | refine Ext.over ?_ _ | refine Ext.drew ?_ | refine Ext.drewN ?_ _)
        case measure => simp [intOf]; omega
      · go_wp2_with (go_at_call 48; refine (HF.out (atI l k) _ he).over.mono ?_; rintro e w' ⟨rfl, xw, rfl⟩)
        go_ret
        refine ⟨by rw [firstN_hit HK.out hlt hv]; rfl, ?_⟩
        repeat (first | exact Ext.refl _ | refine Ext.alloc ?_ _ | assumption | refine Ext.over ?_ _ | refine Ext.drew ?_ | refine Ext.drewN ?_ _)
    · go_wp2_with fail
      go_ret
      exact ⟨by rw [firstN_none (fun j hj => HK.out j (by omega))]; rfl, HE.out⟩

/-! ### What is kept -/
def keptTo (f : Int → Bool) (l : List Int) (j : Nat) : List Int := (l.take j).filter fun x => !f x
theorem keptTo_all {f : Int → Bool} {l : List Int} {j : Nat} (h : l.length ≤ j) : keptTo f l j = l.filter fun x => !f x := by unfold keptTo; rw [List.take_of_length_le h]
theorem keptTo_len (f : Int → Bool) (l : List Int) (j : Nat) : (keptTo f l j).length ≤ j := by
  have := List.length_filter_le (fun x => !f x) (l.take j)
  unfold keptTo
  rw [List.length_take] at this
  omega
theorem keptTo_no {f : Int → Bool} {l : List Int} {j : Nat} (hj : j < l.length) (h : f (atI l j) = true) : keptTo f l (j + 1) = keptTo f l j := by
  unfold keptTo
  rw [List.take_succ_eq_append_getElem hj, List.filter_append, ← atI_eq _ _ hj]
  simp [h]
theorem keptTo_yes {f : Int → Bool} {l : List Int} {j : Nat} (hj : j < l.length) (h : f (atI l j) = false) : keptTo f l (j + 1) = keptTo f l j ++ [atI l j] := by
  unfold keptTo
  rw [List.take_succ_eq_append_getElem hj, List.filter_append, ← atI_eq _ _ hj]
  simp [h]
theorem keptTo_same {f : Int → Bool} {l : List Int} : ∀ {j : Nat}, j ≤ l.length → (∀ i, i < j → f (atI l i) = false) → keptTo f l j = l.take j
  | 0, _, _ => by simp [keptTo]
  | j + 1, hj, h => by
    rw [keptTo_yes (by omega) (h j (by omega)), keptTo_same (j := j) (by omega) (fun i hi => h i (by omega)), List.take_succ_eq_append_getElem (by omega), atI_eq _ _ (by omega)]
/-- The first i cells are what is kept of the first j, those from j on are as they were. -/
def Sift (f : Int → Bool) (l : List Int) (i j : Nat) (cs : List Value) : Prop :=
  cs.length = l.length ∧ i = (keptTo f l j).length ∧ (∀ p, p < i → cs[p]? = some (.int .i64 (atI (keptTo f l j) p))) ∧ ∀ p, j ≤ p → p < l.length → cs[p]? = some (.int .i64 (atI l p))
theorem Sift.start {f : Int → Bool} {l : List Int} {i : Nat} (hi : i < l.length) (h : ∀ j, j < i → f (atI l j) = false) (hf : f (atI l i) = true) : Sift f l i (i + 1) (l.map (Value.int .i64)) := by
  have hk : keptTo f l (i + 1) = l.take i := by rw [keptTo_no hi hf, keptTo_same (by omega) h]
  refine ⟨by simp, by rw [hk, List.length_take]; omega, fun p hp => ?_, fun p hp hl => ?_⟩
  · rw [hk, List.getElem?_map, List.getElem?_eq_getElem (by omega)]
    rw [atI_eq _ _ (by rw [List.length_take]; omega), List.getElem_take]; rfl
  · rw [List.getElem?_map, List.getElem?_eq_getElem (by omega), atI_eq _ _ hl]; rfl
theorem Sift.drop {f : Int → Bool} {l : List Int} {i j : Nat} {cs : List Value} (s : Sift f l i j cs) (hj : j < l.length) (hf : f (atI l j) = true) : Sift f l i (j + 1) cs := by
  obtain ⟨h1, h2, h3, h4⟩ := s
  refine ⟨h1, ?_, ?_, fun p hp hl => h4 p (by omega) hl⟩
  · rw [keptTo_no hj hf]; exact h2
  · rw [keptTo_no hj hf]; exact h3
theorem Sift.keep {f : Int → Bool} {l : List Int} {i j : Nat} {cs : List Value} (s : Sift f l i j cs) (hij : i < j) (hj : j < l.length) (hf : f (atI l j) = false) : Sift f l (i + 1) (j + 1) (cs.set i (.int .i64 (atI l j))) := by
  obtain ⟨h1, h2, h3, h4⟩ := s
  have hk := keptTo_yes hj hf
  refine ⟨by simp [h1], by rw [hk]; simp [h2], fun p hp => ?_, fun p hp hl => ?_⟩
  · rw [hk]
    rcases Nat.lt_or_ge p i with h5 | h5
    · rw [List.getElem?_set_ne (by omega), h3 p h5, atI_eq _ _ (by omega), atI_eq _ _ (by simp; omega), List.getElem_append_left (by omega)]
    · obtain rfl : p = i := by omega
      rw [List.getElem?_set_self (by omega), atI_eq (keptTo f l j ++ [atI l j]) p (by simp; omega), List.getElem_append_right (by omega)]
      simp
  · rw [List.getElem?_set_ne (by omega)]; exact h4 p (by omega) hl
theorem Sift.take {f : Int → Bool} {l : List Int} {i j : Nat} {cs cs' : List Value} (s : Sift f l i j cs) (hj : l.length ≤ j) (hi : i ≤ cs'.length) (he : ∀ p, p < i → cs'[p]? = cs[p]?) : cs'.take i = ((l.filter fun x => !f x).map (Value.int .i64)) := by
  obtain ⟨h1, h2, h3, h4⟩ := s
  rw [keptTo_all hj] at h2 h3
  apply List.ext_getElem?
  intro p
  rcases Nat.lt_or_ge p i with h5 | h5
  · rw [List.getElem?_take, if_pos h5, he p h5, h3 p h5, List.getElem?_map, List.getElem?_eq_getElem (by omega), atI_eq _ _ (by omega)]; rfl
  · rw [List.getElem?_eq_none (by rw [List.length_take]; omega), List.getElem?_eq_none (by rw [List.length_map]; omega)]
theorem own_shrink {w : World} {base n c i g : Nat} {e : TypeId} {xs : List Value} (h : w.ownsRow base e 1 (.slice (some ⟨g, 0, none⟩) n c) n xs) (hi : i ≤ n) : w.ownsRow base e 1 (.slice (some ⟨g, 0, none⟩) i c) i (xs.take i) := by
  have hl := h.1
  refine ⟨by rw [List.length_take]; omega, ?_⟩
  rcases h.2 with ⟨hv, _⟩ | ⟨g', cap, cur, hv, hb, hg, hn, hm, hs, ht⟩
  · injection hv with h1; cases h1
  · injection hv with h1 h2 h3
    injection h1 with h1
    injection h1 with h1
    subst h1 h3
    refine .inr ⟨g, c, cur, rfl, hb, hg, by omega, hm, hs, ?_⟩
    rw [← ht, List.take_take]
    congr 1
    omega
theorem own_cells {base n c g : Nat} {e : TypeId} : ∀ (us : List Value) (o : Nat) (w : World) (xs : List Value), w.ownsRow base e 1 (.slice (some ⟨g, 0, none⟩) n c) n xs → o + us.length ≤ n →
    ∃ xs', (w.setCells g o us).ownsRow base e 1 (.slice (some ⟨g, 0, none⟩) n c) n xs' ∧ (∀ p, p < o → xs'[p]? = xs[p]?) ∧ w.grownBy (w.setCells g o us) (some g)
  | [], o, w, xs, h, _ => ⟨xs, h, fun p _ => rfl, World.grownBy.refl _ _⟩
  | u :: us, o, w, xs, h, hl => by
    have h1 := h.stored o u
    obtain ⟨xs', h2, h3, h4⟩ := own_cells us (o + 1) (w.setCell ⟨g, o, none⟩ u) (xs.set o u) h1.1 (by simp at hl; omega)
    refine ⟨xs', h2, fun p hp => ?_, grown_then h1.2 h4 (.inl rfl)⟩
    rw [h3 p (by omega), List.getElem?_set_ne (by omega)]
theorem zero_int (w : World) : (zeroValue 3).run Try.prog w = .ok (.int .i64 0) w := by kernel_rfl
set_option maxRecDepth 100000 in
set_option maxHeartbeats 3200000 in
theorem DeleteL_any (w0 : World) (A : Option Addr) (n c : Nat) (l : List Int) (a1 : Nat) (f : Int → Bool) (w : World) (ho : w.ownsRow w0.heap.size 3 1 (.slice A n c) n (l.map (Value.int .i64))) (hx : n ≤ 100) (he : Ext w0 w) (hf : ClLAt a1 w0 f) :
    Calls Try.prog 47 #[.slice A n c, .func (.func 48) #[] #[.pointer (some ⟨a1, 0, none⟩)]] w fun en w' => ∃ A' n' c', en = .returned (.slice A' n' c') ∧ w'.ownsRow w0.heap.size 3 1 (.slice A' n' c') n' ((l.filter fun x => !f x).map (Value.int .i64)) ∧ Ext w0 w' := by
  have hn := own_len ho
  subst hn
  have hcap := own_cap ho
  have HO := hid ho
  have HE := hid he
  have HF := hid hf
  have HFW := hid (show ClLAt a1 w f from fun k w' e => hf k w' (he.trans e))
  clear ho he hf
  cases hq : l.any f
  · have hI : firstN l.length (fun j => f (atI l j)) = -1 := firstN_none fun j hj => by
      rw [List.any_eq_false] at hq
      have := hq (atI l j) (by rw [atI_eq _ _ hj]; exact List.getElem_mem hj)
      simpa using this
    have HK := hid (show (l.filter fun x => !f x) = l by
      rw [List.filter_eq_self]
      intro x hxm
      rw [List.any_eq_false] at hq
      simpa using hq x hxm)
    clear hq
    go_enter Try.func47, Try.ntmps47
    go_wp2_with (go_at_call 74; refine (gives_v hI (IndexL_any _ _ _ l a1 f _ ((Row.of_own HO.out).ext (by repeat (first | exact Ext.refl _ | refine Ext.alloc ?_ _ | assumption | refine Ext.over ?_ _ | refine Ext.drew ?_ | refine Ext.drewN ?_ _))) rfl (by omega) HFW.out)).over.mono ?_; rintro e w' ⟨rfl, xw, rfl⟩)
    go_ret
    rw [HK.out]
    exact ⟨_, _, _, rfl, own_ext HO.out (by repeat (first | exact Ext.refl _ | refine Ext.alloc ?_ _ | assumption | refine Ext.over ?_ _ | refine Ext.drew ?_ | refine Ext.drewN ?_ _)), HE.out.trans (by repeat (first | exact Ext.refl _ | refine Ext.alloc ?_ _ | assumption | refine Ext.over ?_ _ | refine Ext.drew ?_ | refine Ext.drewN ?_ _))⟩
  · obtain ⟨i0, hi0, hI, hpre, hhit⟩ : ∃ i0 : Nat, i0 < l.length ∧ firstN l.length (fun j => f (atI l j)) = i0 ∧ (∀ j, j < i0 → f (atI l j) = false) ∧ f (atI l i0) = true := by
      have h1 : 0 ≤ firstN l.length (fun j => f (atI l j)) := by
        rw [List.any_eq_true] at hq
        obtain ⟨x, hxm, hfx⟩ := hq
        obtain ⟨k, hk, rfl⟩ := List.getElem_of_mem hxm
        rw [firstN_nonneg]
        exact ⟨k, hk, by rw [atI_eq _ _ hk]; exact hfx⟩
      unfold firstN at h1 ⊢
      cases hfi : (List.range l.length).find? (fun j => f (atI l j)) with
      | none => rw [hfi] at h1; simp at h1
      | some k =>
        rw [List.find?_range_eq_some] at hfi
        exact ⟨k, by simpa using hfi.2.1, rfl, fun j hj => by simpa using hfi.2.2 j hj, hfi.1⟩
    have HS := hid (Sift.start hi0 hpre hhit)
    obtain ⟨g, hg⟩ := own_addr HO.out (by omega)
    subst hg
    have HGB := hid (HO.out.lt g rfl).1
    have hne : ((i0 : Int) == -1) = false := by rw [beq_eq_false_iff_ne]; omega
    clear hq hpre hhit
    go_enter Try.func47, Try.ntmps47
    go_wp2_with (go_at_call 74; refine (gives_v hI (IndexL_any _ _ _ l a1 f _ ((Row.of_own HO.out).ext (by repeat (first | exact Ext.refl _ | refine Ext.alloc ?_ _ | assumption | refine Ext.over ?_ _ | refine Ext.drew ?_ | refine Ext.drewN ?_ _))) rfl (by omega) HFW.out)).over.mono ?_; rintro e w' ⟨rfl, xw, rfl⟩)
    go_loopw [5, 6] (fun iv jv wr => ∃ (i j : Nat) (cs : List Value), i < j ∧ j ≤ l.length ∧ iv = .int .i64 ↑i ∧ jv = .int .i64 ↑j ∧ wr.ownsRow w0.heap.size 3 1 (.slice (some ⟨g, 0, none⟩) l.length c) l.length cs ∧ Sift f l i j cs ∧ Ext w0 wr) (fun _ jv _ => l.length - (intOf jv).toNat)
    case atStart => exact ⟨i0, i0 + 1, _, by omega, by omega, rfl, by go_num, own_ext HO.out (by repeat (first | exact Ext.refl _ | refine Ext.alloc ?_ _ | assumption | refine Ext.over ?_ _ | refine Ext.drew ?_ | refine Ext.drewN ?_ _)), HS.out, HE.out.trans (by repeat (first | exact Ext.refl _ | refine Ext.alloc ?_ _ | assumption | refine Ext.over ?_ _ | refine Ext.drew ?_ | refine Ext.drewN ?_ _))⟩
    case round =>
      obtain ⟨i, j, cs, hij, hj, rfl, rfl, hown, hsift, he⟩ := hrel
      have HW := hid hown
      have HT := hid hsift
      have HEW := hid he
      clear hown hsift he
      by_cases hlt : j < l.length
      · have c1 : wr.cell? ⟨g, j, none⟩ = some (.int .i64 (atI l j)) := by rw [HW.out.cellAt j (by omega)]; exact HT.out.2.2.2 j (Nat.le_refl _) hlt
        have f1 := HW.out.frozenAt i
        have c2 : ∃ u, wr.cell? ⟨g, i, none⟩ = some u := by
          rw [HW.out.cellAt i (by omega)]
          have := HW.out.1
          exact ⟨_, List.getElem?_eq_getElem (by omega)⟩
        obtain ⟨u, c2⟩ := c2
        cases hv : f (atI l j)
        · have HN := hid (HT.out.keep hij hlt hv)
          have hst := HW.out.stored i (.int .i64 (atI l j))
          have HST := hid hst
          clear hst
          have hil : i < l.length := by omega
          go_wp2_with fail
          refine ((gives_b hv (HF.out (atI l j) wr HEW.out)).over).mono ?_
          rintro e w' ⟨rfl, xw, rfl⟩
          have hstw := (own_ext HW.out (ovr_below wr xw)).stored i (.int .i64 (atI l j))
          have HSW := hid hstw
          have HEO := hid (show Ext w0 (ovr wr xw) from HEW.out.trans (by repeat (first | exact Ext.refl _ | refine Ext.alloc ?_ _ | assumption | refine Ext.over ?_ _ | refine Ext.drew ?_ | refine Ext.drewN ?_ _)))
          have hgs := HGB.out
          clear hstw HST
          go_wp2_with fail
          go_roundw
          case rel =>
            refine ⟨i + 1, j + 1, _, by omega, by omega, by go_num, by go_num, ?_, HN.out, ?_⟩
            · have := HSW.out.1
              rw [ovr_setCell] at this
              exact this
            · have := Below.grown HEO.out HSW.out.2 HEO.out.size (fun q hq => by injection hq with hq; omega)
              rw [ovr_setCell] at this
              exact this
          case measure => simp [intOf]; omega
        · have HN := hid (HT.out.drop hlt hv)
          go_wp2_with fail
          refine ((gives_b hv (HF.out (atI l j) wr HEW.out)).over).mono ?_
          rintro e w' ⟨rfl, xw, rfl⟩
          go_wp2_with fail
          go_roundw
          case rel => exact ⟨i, j + 1, cs, by omega, by omega, rfl, by go_num, own_ext HW.out (by repeat (first | exact Ext.refl _ | refine Ext.alloc ?_ _ | assumption | refine Ext.over ?_ _ | refine Ext.drew ?_ | refine Ext.drewN ?_ _)), HN.out, HEW.out.trans (by repeat (first | exact Ext.refl _ | refine Ext.alloc ?_ _ | assumption | refine Ext.over ?_ _ | refine Ext.drew ?_ | refine Ext.drewN ?_ _))⟩
          case measure => simp [intOf]; omega
      · obtain rfl : j = l.length := by omega
        have hil : i < l.length := by omega
        obtain ⟨cs', hC1, hC2, hC3⟩ := own_cells (List.replicate (l.length - i) (.int .i64 0)) i wr cs HW.out (by simp; omega)
        have hci : ¬ c = i := by omega
        have hic : i ≤ c := by omega
        have hcl : ∀ ty, (Builtin.clear_ #[31] ty #[.slice (some ⟨g, i, none⟩) (l.length - i) (c - i)]).run Try.prog wr = .ok (.tuple #[]) (wr.setCells g i (List.replicate (l.length - i) (.int .i64 0))) := fun ty =>
          Lib.run_clear_slice wr _ _ ty _ Try.underlying31 zero_int rfl rfl g i _ _ (by omega) (fun j hj => by rw [HW.out.cellAt (i + j) (by omega)]; have := HW.out.1; rw [List.getElem?_eq_getElem (by omega)]; rfl) (fun j hj => HW.out.frozenAt _)
        have HR := hid (own_shrink hC1 (i := i) (by omega))
        have HTK := hid (HT.out.take (Nat.le_refl _) (cs' := cs') (by have := hC1.1; omega) hC2)
        have hgs := HGB.out
        have HEX := hid (Below.grown HEW.out hC3 HEW.out.size (fun q hq => by injection hq with hq; omega))
        obtain ⟨w9, hw9⟩ : ∃ w9, w9 = wr.setCells g i (List.replicate (l.length - i) (.int .i64 0)) := ⟨_, rfl⟩
        rw [← hw9] at hcl HR HEX
        clear hC1 hC2 hC3 hw9
        go_wp2_with fail
        go_ret
        rw [← HTK.out]
        exact ⟨_, _, _, rfl, HR.out, HEX.out⟩
end Go.Proofs.Ytngniniiohgilaa
