/- Walks: CountFilming, both. Conditions: at most 1048577 corners and cameras. -/
import Derived.Test.YtelmpiaaaffmlaaFilm
namespace Go.Proofs.Ytelmpiaaaffmlaa
open Go.RowKit
set_option linter.unusedVariables false

def cntN (p : Nat → Bool) : Nat → Nat
  | 0 => 0
  | k + 1 => if p k then cntN p k + 1 else cntN p k
theorem cntN_le (p : Nat → Bool) : ∀ k, cntN p k ≤ k
  | 0 => Nat.le_refl _
  | k + 1 => by have := cntN_le p k; unfold cntN; split <;> omega
theorem cntN_yes {p : Nat → Bool} {k : Nat} (h : p k = true) : cntN p (k + 1) = cntN p k + 1 := by simp [cntN, h]
theorem cntN_no {p : Nat → Bool} {k : Nat} (h : p k = false) : cntN p (k + 1) = cntN p k := by simp [cntN, h]
def countR (L : List T2) (C : List T7) (p : T2) : Nat := cntN (fun k => filmR L (at7 C k) p) C.length
set_option maxRecDepth 100000 in
set_option maxHeartbeats 1600000 in
theorem iCount_any (A : Option Addr) (n c : Nat) (L : List T2) (B : Option Addr) (m d : Nat) (C : List T7) (p : T2) (w : World) (hl : Row w A (L.flatMap T2.v)) (hn : L.length = n) (hx : n ≤ 1048577) (hr : Row w B (C.flatMap T7.v)) (hm : C.length = m) (hy : m ≤ 1048577) : Gives Try.prog 19 #[.agg #[.slice A n c], .slice B m d, ptV p] w (.int .i64 (countR L C p)) := by
  subst hm
  have HL := hid hl
  have HR := hid hr
  have HF := hid (fun x w' (h : Row w' A (L.flatMap T2.v)) => iFilms_any A n c L x p w' h hn hx)
  clear hl hr
  unfold ptV camV at *
  (unfold Gives; go_enter Try.func19, Try.ntmps19)
  go_wp2_with fail
  obtain ⟨wt, hwt⟩ : ∃ wt, wt = (w.alloc (.cells #[.slice A n c] 26)).alloc (.cells #[.int .i64 p.a, .int .i64 p.b] 28) := ⟨_, rfl⟩
  have het : Ext w wt := by rw [hwt]; repeat (first | exact Ext.refl _ | refine Ext.alloc ?_ _ | assumption | refine Ext.over ?_ _ | refine Ext.drew ?_ | refine Ext.drewN ?_ _)
  have b0 : wt.cell? ⟨w.heap.size, 0, none⟩ = some (.slice A n c) := by rw [hwt]; go_simp
  have b1 : wt.cell? ⟨w.heap.size + 1, 0, none⟩ = some (.int .i64 p.a) := by rw [hwt]; go_simp
  have b2 : wt.cell? ⟨w.heap.size + 1, 1, none⟩ = some (.int .i64 p.b) := by rw [hwt]; go_simp
  have HT := hid het
  rw [← hwt]
  generalize w.heap.size = gr at b0 b1 b2 ⊢
  clear hwt het
  go_loopw [7, 12] (fun sv kv wr => ∃ (k z : Nat), k ≤ C.length ∧ kv = .int .i64 ↑k ∧ sv = .int .i64 ↑z ∧ cntN (fun k => filmR L (at7 C k) p) k = z ∧ Ext wt wr) (fun _ kv _ => C.length - (intOf kv).toNat)
  case atStart => exact ⟨0, 0, by omega, rfl, rfl, rfl, by repeat (first | exact Ext.refl _ | refine Ext.alloc ?_ _ | assumption | refine Ext.over ?_ _ | refine Ext.drew ?_ | refine Ext.drewN ?_ _)⟩
  case round =>
    obtain ⟨k, z, hk, rfl, rfl, hz, he⟩ := hrel
    have hzk := cntN_le (fun k => filmR L (at7 C k) p) k
    rw [hz] at hzk
    have HZ := hid hz
    have HE := hid he
    have HX := hid (HT.out.trans he)
    have r0 := old_cell he b0
    have r1 := old_cell he b1
    have r2 := old_cell he b2
    clear hz he
    by_cases hlt : k < C.length
    · obtain ⟨blk, off, hB, hc⟩ := (HR.out.ext HX.out).t7 hlt
      obtain ⟨c1, c2, c3, c4, c5, c6, c7⟩ := hc k hlt
      have HYES := hid (fun h => cntN_yes (p := fun k => filmR L (at7 C k) p) (k := k) h)
      have HNO := hid (fun h => cntN_no (p := fun k => filmR L (at7 C k) p) (k := k) h)
      have HFX := hid (HF.out (at7 C k))
      subst hB
      rw [HZ.out] at HYES HNO
      try simp only at HYES HNO
      generalize at7 C k = x at c1 c2 c3 c4 c5 c6 c7 HYES HNO HFX
      clear hc
      cases hf : filmR L x p
      · have HN := hid (HNO.out hf)
        go_wp2_with (go_at_call 9; refine (gives_b hf (HFX.out _ (HL.out.ext (HX.out.trans (by repeat (first | exact Ext.refl _ | refine Ext.alloc ?_ _ | assumption | refine Ext.over ?_ _ | refine Ext.drew ?_ | refine Ext.drewN ?_ _)))))).over.mono ?_; rintro e w' ⟨rfl, xw, rfl⟩)
        go_roundw
        case rel => exact ⟨k + 1, z, by omega, by go_num, rfl, HN.out, HE.out.trans (by repeat (first | exact Ext.refl _ | refine Ext.alloc ?_ _ | assumption | refine Ext.over ?_ _ | refine Ext.drew ?_ | refine Ext.drewN ?_ _))⟩
        case measure => simp [intOf]; omega
      · have HN := hid (HYES.out hf)
        go_wp2_with (go_at_call 9; refine (gives_b hf (HFX.out _ (HL.out.ext (HX.out.trans (by repeat (first | exact Ext.refl _ | refine Ext.alloc ?_ _ | assumption | refine Ext.over ?_ _ | refine Ext.drew ?_ | refine Ext.drewN ?_ _)))))).over.mono ?_; rintro e w' ⟨rfl, xw, rfl⟩)
        go_roundw
        case rel => exact ⟨k + 1, z + 1, by omega, by go_num, by go_num, HN.out, HE.out.trans (by repeat (first | exact Ext.refl _ | refine Ext.alloc ?_ _ | assumption | refine Ext.over ?_ _ | refine Ext.drew ?_ | refine Ext.drewN ?_ _))⟩
        case measure => simp [intOf]; omega
    · obtain rfl : k = C.length := by omega
      have HV := hid (show countR L C p = z from HZ.out)
      go_wp2_with fail
      go_ret
      exact ⟨by rw [HV.out]; rfl, HX.out⟩
theorem iCount_at (A : Option Addr) (n c : Nat) (L : List T2) (B : Option Addr) (m d : Nat) (C : List T7) (pa pb : Int) (w : World) (hl : Row w A (L.flatMap T2.v)) (hn : L.length = n) (hx : n ≤ 1048577) (hr : Row w B (C.flatMap T7.v)) (hm : C.length = m) (hy : m ≤ 1048577) : Gives Try.prog 19 #[.agg #[.slice A n c], .slice B m d, .agg #[.int .i64 pa, .int .i64 pb]] w (.int .i64 (countR L C ⟨pa, pb⟩)) :=
  iCount_any A n c L B m d C ⟨pa, pb⟩ w hl hn hx hr hm hy
end Go.Proofs.Ytelmpiaaaffmlaa
