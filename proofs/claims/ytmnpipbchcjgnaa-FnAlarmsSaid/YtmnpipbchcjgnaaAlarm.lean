/- Walks: AlarmsOf. Conditions: sizes. -/
import Derived.Test.YtmnpipbchcjgnaaRaise
namespace Go.Proofs.Ytmnpipbchcjgnaa
open Go.RowKit

theorem info_int : (Try.prog.info? 3).map (fun i => (i.zero, i.size, i.bytes)) = some (some (.int .i64 0), 1, 8) := by kernel_rfl
def raisesAt (z r : List T3) (k : Nat) : Bool := raises z (at3 r k).a (at3 r k).b (at3 r k).c
def alarms (z r : List T3) : List Int := idxs (raisesAt z r) r.length
theorem alarms_len (z r : List T3) : (alarms z r).length ≤ r.length := idxs_len _ _
theorem iAlarms_any (A : Option Addr) (n c : Nat) (z : List T3) (B : Option Addr) (m d : Nat) (r : List T3) (w : World) (hz : Row w A (z.flatMap T3.v)) (hn : z.length = n) (hx : n ≤ 1048577) (hr : Row w B (r.flatMap T3.v)) (hm : r.length = m) (hy : m ≤ 1048577) :
    Calls Try.prog 15 #[.slice A n c, .slice B m d] w fun en w' => ∃ A' m' c', en = .returned (.slice A' m' c') ∧ w'.ownsRow w.heap.size 3 1 (.slice A' m' c') m' ((alarms z r).map (Value.int .i64)) ∧ Ext w w' := by
  subst hn hm
  go_enter Try.func15, Try.ntmps15
  go_wp2_with fail
  go_loopw [5, 11] (fun o i wr => ∃ (k : Nat) (A' : Option Addr) (m' c' : Nat), k ≤ r.length ∧ m' ≤ k ∧ i = .int .i64 ↑k ∧ o = .slice A' m' c' ∧ wr.ownsRow w.heap.size 3 1 (.slice A' m' c') m' ((idxs (raisesAt z r) k).map (Value.int .i64)) ∧ Ext w wr) (fun _ i _ => (r.length - (intOf i).toNat))
  case atStart =>
    refine ⟨0, _, _, _, by omega, by omega, rfl, rfl, own_empty _ _ _ rfl (Nat.le_refl _) _ _, ?_⟩
    repeat (first | exact Ext.refl _ | refine Ext.alloc ?_ _ | assumption | refine Ext.over ?_ _ | refine Ext.drew ?_ | refine Ext.drewN ?_ _)
  case round =>
    obtain ⟨k, A', m', c', hk, hm, rfl, rfl, hown, he⟩ := hrel
    obtain ⟨x, rfl⟩ := he.ex
    have HO := hid hown
    clear hown
    by_cases hlt : k < r.length
    · obtain ⟨b, off, rfl, hc⟩ := hr.t3 hlt
      obtain ⟨c1, c2, c3⟩ := hc k (by omega)
      clear hc hr
      cases hL : raises z (at3 r k).a (at3 r k).b (at3 r k).c
      · go_wp2_with (go_at_call 17; refine (iRaises_any _ _ _ _ _ _ _ _ (hz.ext (by repeat (first | exact Ext.refl _ | refine Ext.alloc ?_ _ | assumption | refine Ext.over ?_ _ | refine Ext.drew ?_ | refine Ext.drewN ?_ _))) rfl (by omega)).over.mono ?_; rintro e w' ⟨rfl, xw, rfl⟩)
        go_roundw
        case rel =>
          refine ⟨k + 1, A', m', c', by omega, by omega, by go_num, rfl, ?_, ?_⟩
          · rw [idxs_no hL]
            refine own_ext HO.out ?_
            repeat (first | exact Ext.refl _ | refine Ext.alloc ?_ _ | assumption | refine Ext.over ?_ _ | refine Ext.drew ?_ | refine Ext.drewN ?_ _)
          · repeat (first | exact Ext.refl _ | refine Ext.alloc ?_ _ | assumption | refine Ext.over ?_ _ | refine Ext.drew ?_ | refine Ext.drewN ?_ _)
        case measure => simp [intOf]; omega
      · go_wp2_with (first | (go_at_call 17; refine (iRaises_any _ _ _ _ _ _ _ _ (hz.ext (by repeat (first | exact Ext.refl _ | refine Ext.alloc ?_ _ | assumption | refine Ext.over ?_ _ | refine Ext.drew ?_ | refine Ext.drewN ?_ _))) rfl (by omega)).over.mono ?_; rintro e w' ⟨rfl, xw, rfl⟩) | (at_builtin; refine wpList_push (w) rfl (.tmp 19) (.tmp 21) 38 rfl 3 Try.underlying38 info_int rfl (by decide) _ m' _ rfl (ovr w x) HO.out (by repeat (first | exact Ext.refl _ | refine Ext.alloc ?_ _ | assumption | refine Ext.over ?_ _ | refine Ext.drew ?_ | refine Ext.drewN ?_ _)) (by repeat (first | exact Ext.refl _ | refine Ext.alloc ?_ _ | assumption | refine Ext.over ?_ _ | refine Ext.drew ?_ | refine Ext.drewN ?_ _)) _ 1 1 [.int .i64 (k)] rfl rfl (lit_cells _ _ (by first | (simp; done) | simp [ovr_size]) _ _) (by intro u hu; simp at hu; subst hu; rfl) (by omega) (by decide) ?_))
        intro A2 c2 w2 hown2 he2
        have HO2 := hid hown2
        clear hown2 HO
        go_wp2_with fail
        go_roundw
        case rel =>
          refine ⟨k + 1, A2, m' + 1, c2, by omega, by omega, by go_num, rfl, ?_, he2⟩
          rw [idxs_yes hL]
          simpa using HO2.out
        case measure => simp [intOf]; omega
    · go_wp2_with fail
      go_ret
      obtain rfl : k = r.length := by omega
      exact ⟨_, _, _, rfl, HO.out, he⟩
end Go.Proofs.Ytmnpipbchcjgnaa
