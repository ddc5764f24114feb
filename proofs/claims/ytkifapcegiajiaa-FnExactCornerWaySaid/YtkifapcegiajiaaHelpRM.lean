/- Walks of the helpers of the laws: marks. No condition but sizes. -/
import Derived.Test.YtkifapcegiajiaaRows
import Derived.Test.YtkifapcegiajiaaRowM
import Derived.Test.YtkifapcegiajiaaPush
namespace Go.Proofs.Ytkifapcegiajiaa
open Go.RowKit
theorem markPointS_any (A : Option Addr) (n c base : Nat) (cs : List Value) (q : Int) (w : World) (hown : w.ownsRow base 35 2 (.slice A n c) n cs) (hx : n ≤ 8388608) (hq : 0 ≤ q) (hq' : q ≤ 100000000) :
    Calls Try.prog 41 #[.slice A n c, .int .i64 q] w fun e w' => e = .returned (.int .i64 (q + 2 * n)) ∧ w.grownBy w' (Value.slice A n c).ownBlock ∧ w'.heap.size = w.heap.size ∧ w'.ownsRow base 35 2 (.slice A n c) n ((mks2 q n).flatMap T2.v) := by
  go_enter Try.func41, Try.ntmps41
  have HO := hid hown
  clear hown
  go_wp2_with fail
  go_loopw [1, 5] (fun q' i wr => ∃ (k : Nat) (cs : List Value), k ≤ n ∧ i = .int .i64 k ∧ q' = .int .i64 (q + 2 * k) ∧ wr.ownsRow base 35 2 (.slice A n c) n cs ∧ w.grownBy wr (Value.slice A n c).ownBlock ∧ wr.heap.size = w.heap.size ∧ Filled T2.v 2 (mks2 q n) k cs) (fun _ i _ => n - (intOf i).toNat)
  case atStart => exact ⟨0, cs, by omega, rfl, by simp, HO.out, World.grownBy.refl _ _, rfl, Filled.zero _ _ _ _⟩
  case round =>
    obtain ⟨k, cs, hk, rfl, rfl, hown, hgr, hsz, hfil⟩ := hrel
    clear HO
    have HO := hid hown
    have HG := hid hgr
    have HS := hid hsz
    have HF := hid hfil
    by_cases hlt : k < n
    · obtain ⟨g, hA⟩ := own_addr hown (by omega)
      subst hA
      obtain ⟨u0, o0, f0⟩ := own_some hown (k * 2) (by omega)
      obtain ⟨u1, o1, f1⟩ := own_some hown (k * 2 + 1) (by omega)
      clear hown hgr hsz hfil
      go_wp2_with fail
      go_roundw
      case rel =>
        obtain ⟨cs', a1, a2, a3⟩ := own_put2 ⟨_, _⟩ HO.out HF.out (by rw [mks2_len]; exact hlt) (mks2_at q n k hlt) (mks2_len q n) HG.out
        exact ⟨k + 1, cs', by omega, by go_num, by go_num, a1, a3, by simpa using HS.out, a2⟩
      case measure => simp only [intOf]; omega
    · go_wp2_with fail
      go_ret
      obtain rfl : k = n := by omega
      have hd := Filled.done T2.len (l := mks2 q k) (by rw [mks2_len]; exact HF.out) (by rw [mks2_len]; exact HO.out.1)
      exact ⟨rfl, HG.out, HS.out, hd ▸ HO.out⟩
theorem markRoom_any (A : Option Addr) (n c base : Nat) (cs : List Value) (q : Int) (w : World) (hown : w.ownsRow base 35 2 (.slice A n c) n cs) (hx : n ≤ 8388608) (hq : 0 ≤ q) (hq' : q ≤ 100000000) :
    Calls Try.prog 13 #[.agg #[.slice A n c], .int .i64 q] w fun e w' => e = .returned (.int .i64 (q + 2 * n)) ∧ w.grownBy w' (Value.slice A n c).ownBlock ∧ w.heap.size ≤ w'.heap.size ∧ w'.ownsRow base 35 2 (.slice A n c) n ((mks2 q n).flatMap T2.v) := by
  go_enter Try.func13, Try.ntmps13
  have HO := hid hown
  clear hown
  go_wp2_with fail
  refine (markPointS_any A n c base cs q _ (own_ext HO.out (by repeat (first | exact Ext.refl _ | refine Ext.alloc ?_ _ | assumption | refine Ext.over ?_ _ | refine Ext.drew ?_ | refine Ext.drewN ?_ _))) hx hq hq').mono ?_
  rintro _ w2 ⟨rfl, g, s, o⟩
  have HG := hid (show w.grownBy w2 (Value.slice A n c).ownBlock from grown_then (ext_grown (show Ext w _ by repeat (first | exact Ext.refl _ | refine Ext.alloc ?_ _ | assumption | refine Ext.over ?_ _ | refine Ext.drew ?_ | refine Ext.drewN ?_ _)) _) g (.inl rfl))
  have HZ := hid (show w.heap.size ≤ w2.heap.size by rw [s]; exact (show Ext w _ by repeat (first | exact Ext.refl _ | refine Ext.alloc ?_ _ | assumption | refine Ext.over ?_ _ | refine Ext.drew ?_ | refine Ext.drewN ?_ _)).size)
  have HW := hid o
  clear g s o
  go_wp2_with fail
  go_ret
  exact ⟨rfl, HG.out, HZ.out, HW.out⟩
end Go.Proofs.Ytkifapcegiajiaa
