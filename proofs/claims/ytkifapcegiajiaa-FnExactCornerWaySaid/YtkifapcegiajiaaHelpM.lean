/- Walks of the helpers of the laws at []int. No condition but sizes. -/
import Derived.Test.YtkifapcegiajiaaRows
import Derived.Test.YtkifapcegiajiaaRowM
import Derived.Test.YtkifapcegiajiaaPush
namespace Go.Proofs.Ytkifapcegiajiaa
open Go.RowKit
def marks (q : Int) (n : Nat) : List Int := (List.range n).map fun (j : Nat) => q + (j : Int)
theorem marks_len (q : Int) (n : Nat) : (marks q n).length = n := by simp [marks]
theorem marks_at (q : Int) (n j : Nat) (h : j < n) : atI (marks q n) j = q + j := by simp [atI, marks, List.getD, h]
theorem markIntS_any (A : Option Addr) (n c base : Nat) (cs : List Value) (q : Int) (w : World) (hown : w.ownsRow base 3 1 (.slice A n c) n cs) (hx : n ≤ 8388608) (hq : 0 ≤ q) (hq' : q ≤ 100000000) :
    Calls Try.prog 14 #[.slice A n c, .int .i64 q] w fun e w' => e = .returned (.int .i64 (q + n)) ∧ w.grownBy w' (Value.slice A n c).ownBlock ∧ w'.heap.size = w.heap.size ∧ w'.ownsRow base 3 1 (.slice A n c) n ((marks q n).map (Value.int .i64)) := by
  go_enter Try.func14, Try.ntmps14
  have HO := hid hown
  clear hown
  go_wp2_with fail
  go_loopw [1, 5] (fun q' i wr => ∃ (k : Nat) (cs : List Value), k ≤ n ∧ i = .int .i64 k ∧ q' = .int .i64 (q + k) ∧ wr.ownsRow base 3 1 (.slice A n c) n cs ∧ w.grownBy wr (Value.slice A n c).ownBlock ∧ wr.heap.size = w.heap.size ∧ (∀ j, j < k → cs[j]? = some (.int .i64 (q + (j : Int))))) (fun _ i _ => n - (intOf i).toNat)
  case atStart => exact ⟨0, cs, by omega, rfl, by simp, HO.out, World.grownBy.refl _ _, rfl, by omega⟩
  case round =>
    obtain ⟨k, cs, hk, rfl, rfl, hown, hgr, hsz, hcs⟩ := hrel
    clear HO
    have HO := hid hown
    have HG := hid hgr
    have HS := hid hsz
    have HC := hid hcs
    by_cases hlt : k < n
    · obtain ⟨g, hA⟩ := own_addr hown (by omega)
      subst hA
      obtain ⟨u0, o0, f0⟩ := own_some hown k (by omega)
      clear hown hgr hsz hcs
      go_wp2_with fail
      go_roundw
      case rel =>
        have hl := HO.out.1
        refine ⟨k + 1, cs.set k (.int .i64 (q + k)), by omega, by go_num, by go_num, ?_, ?_, ?_, ?_⟩
        · exact (HO.out.stored _ _).1
        · exact only_row HG.out _ _
        · simpa using HS.out
        · intro j hj
          rcases Nat.lt_or_ge j k with h | h
          · rw [List.getElem?_set_ne (by omega)]; exact HC.out j h
          · obtain rfl : j = k := by omega
            rw [List.getElem?_set_self (by omega)]
      case measure => simp only [intOf]; omega
    · go_wp2_with fail
      go_ret
      obtain rfl : k = n := by omega
      refine ⟨rfl, HG.out, HS.out, ?_⟩
      have e : cs = (marks q k).map (Value.int .i64) := by
        apply List.ext_getElem?
        intro j
        rcases Nat.lt_or_ge j k with h | h
        · rw [HC.out j h]; simp [marks, h]
        · have hl := HO.out.1
          rw [List.getElem?_eq_none (by omega), List.getElem?_eq_none (by simp [marks]; omega)]
      rw [← e]; exact HO.out
theorem heldIntS_ok (A : Option Addr) (n c : Nat) (q : Int) (w : World) (hl : Row w A ((marks q n).map (Value.int .i64))) (hx : n ≤ 8388608) (hq : 0 ≤ q) (hq' : q ≤ 100000000) :
    Gives Try.prog 15 #[.slice A n c, .int .i64 q] w (.int .i64 (q + n)) := by
  (unfold Gives; go_enter Try.func15, Try.ntmps15)
  go_wp2_with fail
  go_loopw [1, 5] (fun q' i wr => ∃ (k : Nat), k ≤ n ∧ i = .int .i64 k ∧ q' = .int .i64 (q + k) ∧ Ext w wr) (fun _ i _ => n - (intOf i).toNat)
  case atStart => exact ⟨0, by omega, rfl, by simp, Ext.refl _⟩
  case round =>
    obtain ⟨k, hk, rfl, rfl, he⟩ := hrel
    have HE := hid he
    by_cases hlt : k < n
    · obtain ⟨b, off, hA, hc⟩ := (hl.ext he).ints (i := k) (by rw [marks_len]; exact hlt)
      subst hA
      have c0 := hc k (by rw [marks_len]; exact hlt)
      rw [marks_at q n k hlt] at c0
      clear hc he hl
      go_wp2_with fail
      go_roundw
      case rel => exact ⟨k + 1, by omega, by go_num, by go_num, HE.out⟩
      case measure => simp only [intOf]; omega
    · go_wp2_with fail
      go_ret
      obtain rfl : k = n := by omega
      exact ⟨rfl, HE.out⟩
end Go.Proofs.Ytkifapcegiajiaa
