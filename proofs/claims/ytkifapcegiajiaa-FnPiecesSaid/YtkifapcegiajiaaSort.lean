/- Walks: sorting points by a closure's order, in a row of the caller's own. Conditions: at most 12 points. -/
import Derived.Test.YtkifapcegiajiaaSight
import Derived.Test.YtkifapcegiajiaaOn
import Derived.BigRegion
namespace Go.Proofs.Ytkifapcegiajiaa
open Go.RowKit
set_option linter.unusedVariables false

theorem own_len2p {w : World} {b : Nat} {e : TypeId} {n : Nat} {v : Value} {L : List T2} (h : w.ownsRow b e 2 v n (L.flatMap T2.v)) : L.length = n := by
  have := h.1; rw [flat_len _ 2 T2.len] at this; omega
theorem set_flat2 (x : T2) : ∀ (l : List T2) (j : Nat), j < l.length → ((l.flatMap T2.v).set (j * 2) (.int .i64 x.a)).set (j * 2 + 1) (.int .i64 x.b) = (l.set j x).flatMap T2.v
  | [], j, h => by simp at h
  | y :: l, 0, _ => by simp [T2.v]
  | y :: l, j + 1, h => by
    have ih := set_flat2 x l j (by simpa using h)
    simp only [List.flatMap_cons, List.set_cons_succ, T2.v, List.cons_append, List.nil_append, show (j + 1) * 2 = j * 2 + 1 + 1 by omega]
    exact congrArg (fun t => _ :: _ :: t) ih
def swp (l : List T2) (j : Nat) : List T2 := (l.set j (at2 l (j - 1))).set (j - 1) (at2 l j)
theorem swp_len (l : List T2) (j : Nat) : (swp l j).length = l.length := by simp [swp]
theorem swp_perm {l : List T2} {j : Nat} (h0 : 0 < j) (hj : j < l.length) : (swp l j).Perm l := by
  unfold swp
  rw [at2_eq l (j - 1) (by omega), at2_eq l j hj]
  exact List.set_set_perm hj (by omega)
theorem swp_at {l : List T2} {j : Nat} (h0 : 0 < j) (hj : j < l.length) (q : Nat) (hq : q < l.length) : at2 (swp l j) q = if q = j then at2 l (j - 1) else if q = j - 1 then at2 l j else at2 l q := by
  rw [at2_eq _ _ (by rw [swp_len]; exact hq)]
  unfold swp
  rw [List.getElem_set, List.getElem_set]
  by_cases h1 : q = j
  · rw [if_pos h1, if_neg (by omega), if_pos h1.symm]
  · rw [if_neg h1]
    by_cases h2 : q = j - 1
    · rw [if_pos h2, if_pos h2.symm]
    · rw [if_neg h2, if_neg (fun e => h2 e.symm), if_neg (fun e => h1 e.symm), at2_eq l q hq]
/-- Sorted up to i, but for the element at j. -/
def SortB (key : T2 → Int) (l : List T2) (i j : Nat) : Prop := ∀ p q, p < q → q ≤ i → q ≠ j → key (at2 l p) ≤ key (at2 l q)
theorem sortB_step {key : T2 → Int} {l : List T2} {i j : Nat} (h : SortB key l i j) (h0 : 0 < j) (hji : j ≤ i) (hi : i < l.length) (hk : key (at2 l j) < key (at2 l (j - 1))) : SortB key (swp l j) i (j - 1) := by
  intro p q hpq hq hne
  rw [swp_at h0 (by omega) p (by omega), swp_at h0 (by omega) q (by omega)]
  by_cases q1 : q = j
  · rw [if_pos q1, if_neg (by omega)]
    by_cases p1 : p = j - 1
    · rw [if_pos p1]; omega
    · rw [if_neg p1]; exact h p (j - 1) (by omega) (by omega) (by omega)
  · rw [if_neg q1, if_neg hne]
    by_cases p1 : p = j
    · rw [if_pos p1]; exact h (j - 1) q (by omega) hq q1
    · rw [if_neg p1]
      by_cases p2 : p = j - 1
      · rw [if_pos p2]; exact h j q (by omega) hq q1
      · rw [if_neg p2]; exact h p q hpq hq q1
theorem sortB_done {key : T2 → Int} {l : List T2} {i j : Nat} (h : SortB key l i j) (hd : j = 0 ∨ key (at2 l (j - 1)) ≤ key (at2 l j)) : ∀ p q, p < q → q < i + 1 → key (at2 l p) ≤ key (at2 l q) := by
  intro p q hpq hq
  by_cases hqj : q = j
  · subst hqj
    rcases hd with hd | hd
    · omega
    · by_cases hp : p = q - 1
      · rw [hp]; exact hd
      · have := h p (q - 1) (by omega) (by omega) (by omega); omega
  · exact h p q hpq (by omega) hqj
def SortK (key : T2 → Int) (l' : List T2) (n : Nat) : Prop := ∀ p q, p < q → q < n → key (at2 l' p) ≤ key (at2 l' q)
def dW (a p q : T2) : Int := wrap64 (squareP a p - squareP a q)
def cmpV (ga : Nat) : Value := .func (.func 90) #[] #[.pointer (some ⟨ga, 0, none⟩)]
theorem cmp_any (ga : Nat) (a p q : T2) (w : World) (h0 : w.cell? ⟨ga, 0, none⟩ = some (.int .i64 a.a)) (h1 : w.cell? ⟨ga, 1, none⟩ = some (.int .i64 a.b)) :
    Gives Try.prog 90 #[ptV p, ptV q, .pointer (some ⟨ga, 0, none⟩)] w (.int .i64 (dW a p q)) := by
  unfold ptV
  (unfold Gives; go_enter Try.func90, Try.ntmps90)
  go_wp2_with fail
  (refine wp_region_calm (by kernel_rfl) (by kernel_rfl) ?_; (repeat (go_big_quiet_step ((go_at_call 91; exact (square_any _ _ _ _ _).calm)))); refine wpQuiet_nil ?_; rintro w1 ⟨x1, rfl⟩)
  go_wp2_with fail
  go_ret
  refine ⟨rfl, ?_⟩
  repeat (first | exact Ext.refl _ | refine Ext.alloc ?_ _ | assumption | refine Ext.over ?_ _ | refine Ext.drew ?_ | refine Ext.drewN ?_ _)
theorem own_t2 {w : World} {base g n cap : Nat} {e : TypeId} {l : List T2} (h : w.ownsRow base e 2 (.slice (some ⟨g, 0, none⟩) n cap) n (l.flatMap T2.v)) {j : Nat} (hj : j < n) (hl : l.length = n) :
    w.cell? ⟨g, j * 2, none⟩ = some (.int .i64 (at2 l j).a) ∧ w.cell? ⟨g, j * 2 + 1, none⟩ = some (.int .i64 (at2 l j).b) := by
  rw [h.cellAt (j * 2) (by omega), h.cellAt (j * 2 + 1) (by omega), at2_eq l j (by omega)]
  exact ⟨by have := flat_get T2.v 2 T2.len l j 0 (by omega) (by omega); simpa [T2.v] using this, by have := flat_get T2.v 2 T2.len l j 1 (by omega) (by omega); simpa [T2.v] using this⟩
set_option maxHeartbeats 3200000 in
set_option maxRecDepth 100000 in
theorem insertion_any (g n cap base ga : Nat) (a : T2) (key : T2 → Int) (l : List T2) (w : World) (ho : w.ownsRow base 35 2 (.slice (some ⟨g, 0, none⟩) n cap) n (l.flatMap T2.v)) (hx : n ≤ 12)
    (h0 : w.cell? ⟨ga, 0, none⟩ = some (.int .i64 a.a)) (h1 : w.cell? ⟨ga, 1, none⟩ = some (.int .i64 a.b)) (hga : ¬ ga = g) (hkey : ∀ p ∈ l, ∀ q ∈ l, decide (dW a p q < 0) = decide (key p < key q)) :
    Calls Try.prog 105 #[.slice (some ⟨g, 0, none⟩) n cap, .int .i64 0, .int .i64 n, cmpV ga] w fun e w' => e = .returned (.tuple #[]) ∧ ∃ l', l'.Perm l ∧ (∀ p q, p < q → q < n → key (at2 l' p) ≤ key (at2 l' q)) ∧ w'.ownsRow base 35 2 (.slice (some ⟨g, 0, none⟩) n cap) n (l'.flatMap T2.v) ∧ w.grownBy w' (some g) := by
  have hln := own_len2p ho
  have HO := hid ho
  have HK := hid hkey
  have HL := hid hln
  clear ho hkey hln
  unfold cmpV
  go_enter Try.func105, Try.ntmps105
  go_wp2_with fail
  go_loopw [8] (fun iv wr => ∃ (i : Nat) (l' : List T2), 1 ≤ i ∧ (i ≤ n ∨ i = 1) ∧ iv = .int .i64 ↑i ∧ l'.Perm l ∧ (∀ p q, p < q → q < i → q < n → key (at2 l' p) ≤ key (at2 l' q)) ∧ wr.ownsRow base 35 2 (.slice (some ⟨g, 0, none⟩) n cap) n (l'.flatMap T2.v) ∧ w.grownBy wr (some g)) (fun iv _ => n + 1 - (intOf iv).toNat)
  case atStart => exact ⟨1, l, by omega, by omega, by go_num, List.Perm.refl _, (fun p q h1 h2 => by omega), HO.out, World.grownBy.refl _ _⟩
  case round =>
    obtain ⟨i, l', hi1, hin, rfl, hp, hs, hown, hg⟩ := hrel
    have HP := hid hp
    have HS := hid hs
    have HW := hid hown
    have HG := hid hg
    clear hp hs hown hg
    by_cases hlt : i < n
    · have hin' : (i : Int) < n := by omega
      go_wp2_with fail
      go_loopw [9] (fun jv wr => ∃ (j : Nat) (l' : List T2), j ≤ i ∧ jv = .int .i64 ↑j ∧ l'.Perm l ∧ SortB key l' i j ∧ wr.ownsRow base 35 2 (.slice (some ⟨g, 0, none⟩) n cap) n (l'.flatMap T2.v) ∧ w.grownBy wr (some g)) (fun jv _ => (intOf jv).toNat)
      case atStart => exact ⟨i, l', by omega, rfl, HP.out, (fun p q h1 h2 h3 => HS.out p q h1 (by omega) (by omega)), HW.out, HG.out⟩
      case round =>
        clear HP HS HW HG
        obtain ⟨j, l', hji, rfl, hp, hs, hown, hg⟩ := hrel
        have hl' : l'.length = n := by have := hp.length_eq; have := HL.out; omega
        have HP := hid hp
        have HS := hid hs
        have HW := hid hown
        have HG := hid hg
        clear hp hs hown hg
        by_cases hj0 : j = 0
        · have hd : decide ((0 : Int) < (j : Int)) = false := decide_eq_false (by omega)
          go_wp2_with fail
          (refine wp_region_calm (by kernel_rfl) (by kernel_rfl) ?_; (repeat (go_big_quiet_step (fail))); refine wpQuiet_nil ?_; rintro w1 ⟨x1, rfl⟩)
          go_wp2_with fail
          have HD := hid (sortB_done HS.out (.inl hj0))
          go_roundw
          case rel => exact ⟨i + 1, l', by omega, by omega, by go_num, HP.out, (fun p q h5 h6 _ => HD.out p q h5 h6), own_ext HW.out (by repeat (first | exact Ext.refl _ | refine Ext.alloc ?_ _ | assumption | refine Ext.over ?_ _ | refine Ext.drew ?_ | refine Ext.drewN ?_ _)), grown_then HG.out (ext_grown (by repeat (first | exact Ext.refl _ | refine Ext.alloc ?_ _ | assumption | refine Ext.over ?_ _ | refine Ext.drew ?_ | refine Ext.drewN ?_ _)) (some g)) (.inl rfl)⟩
          case measure => simp [intOf]; omega
        · obtain ⟨jm, hjm⟩ : ∃ jm, jm = j - 1 := ⟨_, rfl⟩
          have hdp : 0 < j := by omega
          have hwj : IntKind.i64.wrap ((j : Int) - 1) = (jm : Int) := by rw [IntWalk.i64_in _ (by omega)]; omega
          have hjn : j < n := by omega
          have hjmn : jm < n := by omega
          have hjn' : (j : Int) < n := by omega
          have hjmn' : (jm : Int) < n := by omega
          obtain ⟨c1, c2⟩ := own_t2 HW.out hjn hl'
          obtain ⟨d1, d2⟩ := own_t2 HW.out hjmn hl'
          have m1 : at2 l' j ∈ l := HP.out.mem_iff.1 (by rw [at2_eq _ _ (by omega)]; exact List.getElem_mem _)
          have m2 : at2 l' jm ∈ l := HP.out.mem_iff.1 (by rw [at2_eq _ _ (by omega)]; exact List.getElem_mem _)
          have HKK := hid (HK.out _ m1 _ m2)
          have hgw : ∀ o v, w.cell? ⟨ga, o, none⟩ = some v → wr.cell? ⟨ga, o, none⟩ = some v := fun o v h => (World.cell?_of_block (HG.out.block ga (World.block_lt_of_cell? w _ h) (by intro e; injection e with e; exact hga e))).trans h
          have a0 := hgw 0 _ h0
          have a1 := hgw 1 _ h1
          have HSW := hid (show swp l' j = (l'.set j (at2 l' jm)).set jm (at2 l' j) by unfold swp; rw [← hjm])
          have HST := hid (fun h => sortB_step HS.out (by omega) hji (by omega) h)
          have HSD := hid (fun h => sortB_done HS.out (.inr h))
          rw [← hjm] at HST HSD
          have HPM := hid ((swp_perm (l := l') (j := j) (by omega) (by omega)).trans HP.out)
          have HJM := hid hjm
          clear m1 m2 hgw hjm
          generalize hpj : at2 l' j = pj at *
          generalize hpm : at2 l' jm = pm at *
          cases hd : decide (dW a pj pm < 0)
          · have hk := HSD.out (by have := HKK.out; rw [hd] at this; have := of_decide_eq_false this.symm; omega)
            have HDN := hid hk
            clear hk hpj hpm
            go_wp2_with fail
            (refine wp_region_calm (by kernel_rfl) (by kernel_rfl) ?_; (repeat (go_big_quiet_step ((go_at_call 90; exact (cmp_any ga a pj pm _ (old_cell (by repeat (first | exact Ext.refl _ | refine Ext.alloc ?_ _ | assumption | refine Ext.over ?_ _ | refine Ext.drew ?_ | refine Ext.drewN ?_ _)) a0) (old_cell (by repeat (first | exact Ext.refl _ | refine Ext.alloc ?_ _ | assumption | refine Ext.over ?_ _ | refine Ext.drew ?_ | refine Ext.drewN ?_ _)) a1)).calm)))); refine wpQuiet_nil ?_; rintro w1 ⟨x1, rfl⟩)
            go_wp2_with fail
            go_roundw
            case rel => exact ⟨i + 1, l', by omega, by omega, by go_num, HP.out, (fun p q h5 h6 _ => HDN.out p q h5 h6), own_ext HW.out (by repeat (first | exact Ext.refl _ | refine Ext.alloc ?_ _ | assumption | refine Ext.over ?_ _ | refine Ext.drew ?_ | refine Ext.drewN ?_ _)), grown_then HG.out (ext_grown (by repeat (first | exact Ext.refl _ | refine Ext.alloc ?_ _ | assumption | refine Ext.over ?_ _ | refine Ext.drew ?_ | refine Ext.drewN ?_ _)) (some g)) (.inl rfl)⟩
            case measure => simp [intOf]; omega
          · have hk := HST.out (by have := HKK.out; rw [hd] at this; exact of_decide_eq_true this.symm)
            have HDN := hid hk
            have f1 := HW.out.frozenAt (j * 2)
            have f2 := HW.out.frozenAt (j * 2 + 1)
            have f3 := HW.out.frozenAt (jm * 2)
            have f4 := HW.out.frozenAt (jm * 2 + 1)
            clear hk
            go_wp2_with fail
            (refine wp_region_calm (by kernel_rfl) (by kernel_rfl) ?_; (repeat (go_big_quiet_step ((go_at_call 90; exact (cmp_any ga a pj pm _ (old_cell (by repeat (first | exact Ext.refl _ | refine Ext.alloc ?_ _ | assumption | refine Ext.over ?_ _ | refine Ext.drew ?_ | refine Ext.drewN ?_ _)) a0) (old_cell (by repeat (first | exact Ext.refl _ | refine Ext.alloc ?_ _ | assumption | refine Ext.over ?_ _ | refine Ext.drew ?_ | refine Ext.drewN ?_ _)) a1)).calm)))); refine wpQuiet_nil ?_; rintro w1 ⟨x1, rfl⟩)
            go_wp2_with fail
            obtain ⟨W, hW⟩ : ∃ W, W = ovr wr x1 := ⟨_, rfl⟩
            have eW : Ext wr W := by rw [hW]; repeat (first | exact Ext.refl _ | refine Ext.alloc ?_ _ | assumption | refine Ext.over ?_ _ | refine Ext.drew ?_ | refine Ext.drewN ?_ _)
            have c1 := old_cell eW c1
            have c2 := old_cell eW c2
            have d1 := old_cell eW d1
            have d2 := old_cell eW d2
            have HWW := hid (own_ext HW.out eW)
            have HGW := hid (grown_then HG.out (ext_grown eW (some g)) (.inl rfl))
            have f1 := HWW.out.frozenAt (j * 2)
            have f2 := HWW.out.frozenAt (j * 2 + 1)
            have f3 := HWW.out.frozenAt (jm * 2)
            have f4 := HWW.out.frozenAt (jm * 2 + 1)
            rw [← hW]
            clear hW eW a0 a1
            have hjj := HJM.out
            have n1 : ¬ j = jm := by omega
            have n2 : ¬ jm = j := by omega
            have n3 : ¬ j * 2 + 1 = jm * 2 := by omega
            have n4 : ¬ jm * 2 = j * 2 + 1 := by omega
            have n5 : ¬ jm * 2 + 1 = j * 2 := by omega
            have n6 : ¬ j * 2 = jm * 2 + 1 := by omega
            clear hjj
            go_region
            have s1 := HWW.out.stored (j * 2) (.int .i64 pm.a)
            have s2 := s1.1.stored (j * 2 + 1) (.int .i64 pm.b)
            have s3 := s2.1.stored (jm * 2) (.int .i64 pj.a)
            have s4 := s3.1.stored (jm * 2 + 1) (.int .i64 pj.b)
            have HS4 := hid (own_ext s4.1 (Ext.drew (Ext.refl _)))
            have HG4 := hid (show w.grownBy _ (some g) from grown_then HGW.out (grown_then s1.2 (grown_then s2.2 (grown_then s3.2 (grown_then s4.2 (ext_grown (Ext.drew (Ext.refl _)) (some g)) (.inl rfl)) (.inl rfl)) (.inl rfl)) (.inl rfl)) (.inl rfl))
            rw [set_flat2 pm l' j (by omega), set_flat2 pj (l'.set j pm) jm (by simp; omega), ← HSW.out] at HS4
            obtain ⟨W2, hW2⟩ : ∃ W2, W2 = ((((W.setCell ⟨g, j * 2, none⟩ (.int .i64 pm.a)).setCell ⟨g, j * 2 + 1, none⟩ (.int .i64 pm.b)).setCell ⟨g, jm * 2, none⟩ (.int .i64 pj.a)).setCell ⟨g, jm * 2 + 1, none⟩ (.int .i64 pj.b)).drew := ⟨_, rfl⟩
            rw [← hW2] at HS4 HG4 ⊢
            have HJ2 := HJM.out
            clear s1 s2 s3 s4 hW2 c1 c2 d1 d2 f1 f2 f3 f4
            go_wp2_with fail
            go_roundw
            case rel => exact ⟨jm, swp l' j, by omega, by go_num, HPM.out, HDN.out, HS4.out, HG4.out⟩
            case measure => simp [intOf]; omega
    · go_wp2_with fail
      go_end0
      exact ⟨rfl, l', HP.out, (fun p q h5 h6 => HS.out p q h5 (by omega) h6), HW.out, HG.out⟩
end Go.Proofs.Ytkifapcegiajiaa
