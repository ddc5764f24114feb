/- Walks: slices.Reverse at ints, in a row of the caller's own. Conditions: at most 100 elements. -/
import Derived.Test.YtngniniiohgilaaRows
import Derived.Test.YtngniniiohgilaaPush
namespace Go.Proofs.Ytngniniiohgilaa
open Go.RowKit
set_option linter.unusedVariables false

def rv (n i p : Nat) : Nat := if p < i ∨ n ≤ p + i then n - 1 - p else p
theorem rv_done {n i p : Nat} (hp : p < n) (hi : n ≤ 2 * i + 1) : rv n i p = n - 1 - p := by unfold rv; split <;> omega
theorem rv_mid {n i : Nat} (h : 2 * i + 1 < n) : rv n i i = i ∧ rv n i (n - 1 - i) = n - 1 - i := by unfold rv; constructor <;> (split <;> omega)
theorem rv_step {n i p : Nat} (h : 2 * i + 1 < n) (hp : p < n) : rv n (i + 1) p = if p = i then n - 1 - i else if p = n - 1 - i then i else rv n i p := by
  unfold rv
  repeat' split
  all_goals omega
set_option maxHeartbeats 1600000 in
theorem Reverse_any (g n cap base : Nat) (zs : List Int) (w : World) (ho : w.ownsRow base 3 1 (.slice (some ⟨g, 0, none⟩) n cap) n (zs.map (Value.int .i64))) (hx : n ≤ 100) :
    Calls Try.prog 77 #[.slice (some ⟨g, 0, none⟩) n cap] w fun e w' => e = .returned (.tuple #[]) ∧ w'.ownsRow base 3 1 (.slice (some ⟨g, 0, none⟩) n cap) n (zs.reverse.map (Value.int .i64)) ∧ w.grownBy w' (some g) := by
  have hzn : zs.length = n := by have := ho.1; simpa using this
  have HO := hid ho
  have HZ := hid hzn
  clear ho hzn
  go_enter Try.func77, Try.ntmps77
  go_wp2_with fail
  go_loopw [2, 3] (fun iv jv wr => ∃ (i : Nat) (cs : List Value), 2 * i ≤ n + 1 ∧ iv = .int .i64 ↑i ∧ jv = .int .i64 ((n : Int) - 1 - i) ∧ wr.ownsRow base 3 1 (.slice (some ⟨g, 0, none⟩) n cap) n cs ∧ (∀ p, p < n → cs[p]? = some (.int .i64 (atI zs (rv n i p)))) ∧ w.grownBy wr (some g)) (fun iv _ _ => n - (intOf iv).toNat)
  case atStart =>
    refine ⟨0, _, by omega, rfl, by go_num, HO.out, fun p hp => ?_, World.grownBy.refl _ _⟩
    have hz := HZ.out
    rw [List.getElem?_map, List.getElem?_eq_getElem (by omega), show rv n 0 p = p from by unfold rv; split <;> omega, atI_eq _ _ (by omega)]; rfl
  case round =>
    obtain ⟨i, cs, hi, rfl, rfl, hown, hc, hg⟩ := hrel
    have HC := hid hc
    have HW := hid hown
    have HG := hid hg
    clear hc hown hg
    by_cases hlt : 2 * i + 1 < n
    · obtain ⟨j, hj⟩ : ∃ j, j = n - 1 - i := ⟨_, rfl⟩
      have hjc : ((n : Int) - 1 - i) = (j : Int) := by omega
      rw [hjc]
      have hij : i < j := by omega
      have hjn : j < n := by omega
      have c1 : wr.cell? ⟨g, i, none⟩ = some (.int .i64 (atI zs i)) := by rw [HW.out.cellAt i (by omega), HC.out i (by omega), (rv_mid hlt).1]
      have c2 : wr.cell? ⟨g, j, none⟩ = some (.int .i64 (atI zs j)) := by rw [HW.out.cellAt j (by omega), HC.out j (by omega), hj, (rv_mid hlt).2]
      have f1 := HW.out.frozenAt i
      have f2 := HW.out.frozenAt j
      have HJ := hid hj
      clear hj hjc
      go_wp2_with fail
      go_region
      have s1 := HW.out.stored i (.int .i64 (atI zs j))
      have s2 := s1.1.stored j (.int .i64 (atI zs i))
      have HS := hid (own_ext s2.1 (Ext.drew (Ext.refl _)))
      have HG2 := hid (show w.grownBy _ (some g) from grown_then HG.out (grown_then s1.2 (grown_then s2.2 (ext_grown (Ext.drew (Ext.refl _)) (some g)) (.inl rfl)) (.inl rfl)) (.inl rfl))
      clear s1 s2 c1 c2 f1 f2
      go_wp2_with fail
      go_roundw
      case rel =>
        refine ⟨i + 1, _, by omega, by go_num, ?_, HS.out, fun p hp => ?_, HG2.out⟩
        · have := HJ.out; go_num
        · have hl := HW.out.1
          have hj := HJ.out
          rw [rv_step hlt hp, ← hj]
          by_cases h1 : p = j
          · subst h1
            rw [List.getElem?_set_self (by rw [List.length_set]; omega), if_neg (by omega), if_pos rfl]
          · rw [List.getElem?_set_ne (fun e => h1 e.symm)]
            by_cases h2 : p = i
            · subst h2; rw [List.getElem?_set_self (by omega), if_pos rfl]
            · rw [List.getElem?_set_ne (fun e => h2 e.symm), if_neg h2, if_neg h1]; exact HC.out p hp
      case measure => simp [intOf]; omega
    · go_wp2_with fail
      go_end0
      refine ⟨rfl, ?_, HG.out⟩
      have he : cs = zs.reverse.map (Value.int .i64) := by
        apply List.ext_getElem?
        intro p
        have hz := HZ.out
        have hl := HW.out.1
        rcases Nat.lt_or_ge p n with h | h
        · rw [HC.out p h, rv_done h (by omega), List.getElem?_map, List.getElem?_reverse (by omega), hz, atI_eq _ _ (by omega), List.getElem?_eq_getElem (by omega)]; rfl
        · rw [List.getElem?_eq_none (by omega), List.getElem?_eq_none (by simp; omega)]
      rw [← he]
      exact HW.out
end Go.Proofs.Ytngniniiohgilaa
