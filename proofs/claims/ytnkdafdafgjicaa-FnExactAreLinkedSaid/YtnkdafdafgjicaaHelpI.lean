/- Walks of the helpers of the laws at []int. No condition but sizes. -/
import Derived.Test.YtnkdafdafgjicaaRows
import Derived.Test.YtnkdafdafgjicaaRowM
import Derived.Test.YtnkdafdafgjicaaPush
import Derived.Test.YtnkdafdafgjicaaHelpEq
namespace Go.Proofs.Ytnkdafdafgjicaa
open Go.RowKit
theorem info_intT : (Try.prog.info? 3).map (fun i => (i.zero, i.size, i.bytes)) = some (some (.int .i64 0), 1, 8) := by kernel_rfl
theorem toIntS_any (A : Option Addr) (n c : Nat) (l : List Int) (w : World) (hl : Row w A (l.map (Value.int .i64))) (hn : l.length = n) (hx : n ≤ 1048577) :
    Calls Try.prog 12 #[.slice A n c] w fun e w' => ∃ A' c', e = .returned (.slice A' n c') ∧ w'.ownsRow w.heap.size 3 1 (.slice A' n c') n (l.map (Value.int .i64)) ∧ Ext w w' := by
  subst hn
  obtain ⟨i0, hi, hz0, hz1, hz2⟩ := info_parts info_intT
  go_enter Try.func12, Try.ntmps12
  go_wp2_with (at_make; refine wpList_make_full _ rfl (.tmp 6) (.tmp 6) 25 rfl w.heap.size 3 i0 _ 1 Try.underlying25 hi hz0 hz1 _ _ _ _ l.length rfl rfl rfl rfl (by rw [hz2]; omega) (by unfold maxLen; omega) (Nat.le_refl _) ?_)
  intro w1 hown hg
  have he1 : Ext w w1 := (Below.refl _ _).grown hg (Nat.le_refl _) (by simp)
  have HO := hid hown
  have HE := hid he1
  clear hown he1 hg hz0 hz1 hz2 hi
  go_wp2_with fail
  go_loopw [4] (fun i wr => ∃ (k : Nat) (cs : List Value), k ≤ l.length ∧ i = .int .i64 k ∧ wr.ownsRow w.heap.size 3 1 (.slice (some ⟨w.heap.size, 0, none⟩) l.length l.length) l.length cs ∧ (∀ j, j < k → cs[j]? = some (.int .i64 (atI l j))) ∧ Ext w wr) (fun i _ => l.length - (intOf i).toNat)
  case atStart => exact ⟨0, _, by omega, rfl, HO.out, by omega, HE.out⟩
  case round =>
    obtain ⟨k, cs, hk, rfl, hown, hcs, he⟩ := hrel
    clear HO HE
    have HO := hid hown
    have HC := hid hcs
    have HE := hid he
    by_cases hlt : k < l.length
    · obtain ⟨b, off, hA, hc⟩ := (hl.ext he).ints hlt
      subst hA
      have c0 := hc k hlt
      obtain ⟨u0, o0, f0⟩ := own_some hown k (by omega)
      clear hc hown hcs he hl
      go_wp2_with fail
      go_roundw
      case rel =>
        have hl1 := HO.out.1
        refine ⟨k + 1, cs.set k (.int .i64 (atI l k)), by omega, by go_num, (HO.out.stored _ _).1, ?_, HE.out.setCell (Nat.le_refl _) _⟩
        intro j hj
        rcases Nat.lt_or_ge j k with h | h
        · rw [List.getElem?_set_ne (by omega)]; exact HC.out j h
        · obtain rfl : j = k := by omega
          rw [List.getElem?_set_self (by omega)]
      case measure => simp only [intOf]; omega
    · go_wp2_with fail
      go_ret
      obtain rfl : k = l.length := by omega
      have e : cs = l.map (Value.int .i64) := by
        apply List.ext_getElem?
        intro j
        have hl1 := HO.out.1
        rcases Nat.lt_or_ge j l.length with h | h
        · rw [HC.out j h, atI_eq l j h]; simp [h]
        · rw [List.getElem?_eq_none (by omega), List.getElem?_eq_none (by simp; omega)]
      exact ⟨_, _, rfl, e ▸ HO.out, HE.out⟩
end Go.Proofs.Ytnkdafdafgjicaa
