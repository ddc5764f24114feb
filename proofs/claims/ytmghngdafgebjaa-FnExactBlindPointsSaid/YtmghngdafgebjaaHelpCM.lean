/- Walks of the helpers of the laws: marks. No condition but sizes. -/
import Derived.Test.YtmghngdafgebjaaRows
import Derived.Test.YtmghngdafgebjaaRowM
import Derived.Test.YtmghngdafgebjaaPush
namespace Go.Proofs.Ytmghngdafgebjaa
open Go.RowKit
theorem markCameraS_any (A : Option Addr) (n c base : Nat) (cs : List Value) (q : Int) (w : World) (hown : w.ownsRow base 37 7 (.slice A n c) n cs) (hx : n ≤ 8388608) (hq : 0 ≤ q) (hq' : q ≤ 100000000) :
    Calls Try.prog 30 #[.slice A n c, .int .i64 q] w fun e w' => e = .returned (.int .i64 (q + 7 * n)) ∧ w.grownBy w' (Value.slice A n c).ownBlock ∧ w'.heap.size = w.heap.size ∧ w'.ownsRow base 37 7 (.slice A n c) n ((mks7 q n).flatMap T7.v) := by
  go_enter Try.func30, Try.ntmps30
  have HO := hid hown
  clear hown
  go_wp2_with fail
  go_loopw [1, 5] (fun q' i wr => ∃ (k : Nat) (cs : List Value), k ≤ n ∧ i = .int .i64 k ∧ q' = .int .i64 (q + 7 * k) ∧ wr.ownsRow base 37 7 (.slice A n c) n cs ∧ w.grownBy wr (Value.slice A n c).ownBlock ∧ wr.heap.size = w.heap.size ∧ Filled T7.v 7 (mks7 q n) k cs) (fun _ i _ => n - (intOf i).toNat)
  case atStart => exact ⟨0, cs, by omega, rfl, by simp, HO.out, World.grownBy.refl _ _, rfl, Filled.zero _ _ _ _⟩
  case round =>
    obtain ⟨k, cs, hk, rfl, rfl, hown, hgr, hsz, hfil⟩ := hrel
    clear HO
    have HO := hid hown
    have HG := hid hgr
    have HS := hid hsz
    have HF := hid hfil
    by_cases hlt : k < n
    · obtain ⟨g, hA⟩ := own_addr hown (by omega)
      subst hA
      obtain ⟨u0, o0, f0⟩ := own_some hown (k * 7) (by omega)
      obtain ⟨u1, o1, f1⟩ := own_some hown (k * 7 + 1) (by omega)
      obtain ⟨u2, o2, f2⟩ := own_some hown (k * 7 + 2) (by omega)
      obtain ⟨u3, o3, f3⟩ := own_some hown (k * 7 + 3) (by omega)
      obtain ⟨u4, o4, f4⟩ := own_some hown (k * 7 + 4) (by omega)
      obtain ⟨u5, o5, f5⟩ := own_some hown (k * 7 + 5) (by omega)
      obtain ⟨u6, o6, f6⟩ := own_some hown (k * 7 + 6) (by omega)
      clear hown hgr hsz hfil
      go_wp2_with fail
      go_roundw
      case rel =>
        obtain ⟨cs', a1, a2, a3⟩ := own_put7 ⟨_, _, _, _, _, _, _⟩ HO.out HF.out (by rw [mks7_len]; exact hlt) (mks7_at q n k hlt) (mks7_len q n) HG.out
        exact ⟨k + 1, cs', by omega, by go_num, by go_num, a1, a3, by simpa using HS.out, a2⟩
      case measure => simp only [intOf]; omega
    · go_wp2_with fail
      go_ret
      obtain rfl : k = n := by omega
      have hd := Filled.done T7.len (l := mks7 q k) (by rw [mks7_len]; exact HF.out) (by rw [mks7_len]; exact HO.out.1)
      exact ⟨rfl, HG.out, HS.out, hd ▸ HO.out⟩
end Go.Proofs.Ytmghngdafgebjaa
