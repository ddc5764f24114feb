/- Walks: how many halls of a set have an open door. Conditions: at most seven halls. -/
import Derived.Test.YtngniniiohgilaaAfterI
import Derived.Test.YtngniniiohgilaaBits
namespace Go.Proofs.Ytngniniiohgilaa
open Go.RowKit
set_option linter.unusedVariables false

def openB (u : Nat → Bool) (l : List T2) (a b : Nat) : Bool := (List.range b).any fun b => hasD l a b && !u b
theorem openB_all (u : Nat → Bool) (l : List T2) (h a : Nat) : openB u l a h = openTo u l h a := rfl
theorem openB_succ (u : Nat → Bool) (l : List T2) (a b : Nat) : openB u l a (b + 1) = (openB u l a b || (hasD l a b && !u b)) := by unfold openB; rw [List.range_succ, List.any_append]; simp
theorem openB_keep {u : Nat → Bool} {l : List T2} {a b : Nat} (h : openB u l a b = true) : openB u l a (b + 1) = true := by rw [openB_succ, h]; rfl
theorem openB_in {u : Nat → Bool} {l : List T2} {a b : Nat} (h : openB u l a b = false) (hu : u b = true) : openB u l a (b + 1) = false := by rw [openB_succ, h, hu]; simp
theorem openB_out {u : Nat → Bool} {l : List T2} {a b : Nat} (h : openB u l a b = false) (hu : u b = false) : openB u l a (b + 1) = hasD l a b := by rw [openB_succ, h, hu]; simp
theorem ga_no {u : Nat → Bool} {l : List T2} {h a : Nat} (hu : u a = false) : gaP u l h a = false := by unfold gaP; rw [hu]; rfl
theorem ga_at {u : Nat → Bool} {l : List T2} {h a : Nat} (hu : u a = true) : gaP u l h a = openB u l a h := by unfold gaP; rw [hu]; rfl
set_option maxHeartbeats 3200000 in
set_option maxRecDepth 100000 in
theorem border_any (h : Nat) (A : Option Addr) (n c : Nat) (l : List T2) (S : Nat) (w : World) (hl : Row w A (l.flatMap T2.v)) (hn : l.length = n) (hx : n ≤ 1048577) (h7 : h ≤ 7) (hS : S < 128) :
    Gives Try.prog 67 #[.agg #[.int .i64 h, .slice A n c], .int .i64 S] w (.int .i64 (gaL S.testBit l h).length) := by
  subst hn
  have hS2 : S < 256 := by omega
  (unfold Gives; go_enter Try.func67, Try.ntmps67)
  go_wp2_with fail
  go_loopw [5, 6] (fun o i wr => ∃ (a : Nat), a ≤ h ∧ i = .int .i64 ↑a ∧ o = .int .i64 (idxs (gaP S.testBit l h) a).length ∧ Ext w wr ∧ wr.cell? ⟨w.heap.size, 0, none⟩ = some (.int .i64 h) ∧ wr.cell? ⟨w.heap.size, 1, none⟩ = some (.slice A l.length c)) (fun _ i _ => (h - (intOf i).toNat))
  case atStart => exact ⟨0, by omega, rfl, rfl, by repeat (first | exact Ext.refl _ | refine Ext.alloc ?_ _ | assumption | refine Ext.over ?_ _ | refine Ext.drew ?_ | refine Ext.drewN ?_ _), by go_simp, by go_simp⟩
  case round =>
    obtain ⟨a, ha, rfl, rfl, he, b0, b1⟩ := hrel
    have HE := hid he
    have HL := hid (hl.ext he)
    have hcl := idxs_len (gaP S.testBit l h) a
    obtain ⟨m, hm⟩ : ∃ m, m = (idxs (gaP S.testBit l h) a).length := ⟨_, rfl⟩
    rw [← hm] at hcl ⊢
    have HM := hid hm
    clear hm he
    by_cases hlt : a < h
    · rename World => wo
      cases hba : S.testBit a
      · obtain ⟨e0, e1⟩ := bit_no hS2 hba
        have HI := hid (idxs_no (p := gaP S.testBit l h) (k := a) (ga_no hba))
        go_wp2_with fail
        go_loopw [7, 8] (fun o i wr => i = .int .i64 0 ∧ o = .bool false ∧ wr = wo) (fun _ _ _ => 0)
        case atStart => exact ⟨rfl, rfl, rfl⟩
        case round =>
          obtain ⟨rfl, rfl, rfl⟩ := hrel
          go_wp2_with fail
          go_roundw
          case rel => exact ⟨a + 1, by omega, by go_num, by rw [HI.out, ← HM.out], HE.out, b0, b1⟩
          case measure => simp [intOf]; omega
      · obtain ⟨e0, e1⟩ := bit_yes hS2 hba
        have HG := hid (ga_at (l := l) (h := h) hba)
        go_wp2_with fail
        go_loopw [7, 8] (fun o i wr => ∃ (b : Nat), b ≤ h ∧ i = .int .i64 ↑b ∧ o = .bool (openB S.testBit l a b) ∧ Ext wo wr) (fun _ i _ => h - (intOf i).toNat)
        case atStart => exact ⟨0, by omega, rfl, rfl, Ext.refl _⟩
        case round =>
          obtain ⟨b, hb, rfl, rfl, he2⟩ := hrel
          have p0 := old_cell he2 b0
          have p1 := old_cell he2 b1
          have HE2 := hid (HE.out.trans he2)
          have HE3 := hid he2
          have HL2 := hid (HL.out.ext he2)
          clear he2 b0 b1
          by_cases hblt : b < h
          · cases hop : openB S.testBit l a b
            · cases hbb : S.testBit b
              · obtain ⟨f0, f1⟩ := bit_no (k := b) hS2 hbb
                have HO := hid (openB_out hop hbb)
                go_wp2_with (go_at_call 55; refine (l23Door_any _ _ _ _ l _ _ _ (HL2.out.ext (by repeat (first | exact Ext.refl _ | refine Ext.alloc ?_ _ | assumption | refine Ext.over ?_ _ | refine Ext.drew ?_ | refine Ext.drewN ?_ _))) rfl hx).over.mono ?_; rintro e w' ⟨rfl, xw, rfl⟩)
                all_goals
                  go_roundw
                  case rel => exact ⟨b + 1, by omega, by go_num, by rw [HO.out], HE3.out.trans (by repeat (first | exact Ext.refl _ | refine Ext.alloc ?_ _ | assumption | refine Ext.over ?_ _ | refine Ext.drew ?_ | refine Ext.drewN ?_ _))⟩
                  case measure => simp [intOf]; omega
              · obtain ⟨f0, f1⟩ := bit_yes (k := b) hS2 hbb
                have HO := hid (openB_in hop hbb)
                go_wp2_with fail
                go_roundw
                case rel => exact ⟨b + 1, by omega, by go_num, by rw [HO.out], HE3.out.trans (by repeat (first | exact Ext.refl _ | refine Ext.alloc ?_ _ | assumption | refine Ext.over ?_ _ | refine Ext.drew ?_ | refine Ext.drewN ?_ _))⟩
                case measure => simp [intOf]; omega
            · have HO := hid (openB_keep hop)
              go_wp2_with fail
              go_roundw
              case rel => exact ⟨b + 1, by omega, by go_num, by rw [HO.out], HE3.out.trans (by repeat (first | exact Ext.refl _ | refine Ext.alloc ?_ _ | assumption | refine Ext.over ?_ _ | refine Ext.drew ?_ | refine Ext.drewN ?_ _))⟩
              case measure => simp [intOf]; omega
          · obtain rfl : b = h := by omega
            cases hop : openB S.testBit l a b
            · have HI := hid (idxs_no (p := gaP S.testBit l b) (k := a) (by rw [HG.out, hop]))
              go_wp2_with fail
              go_roundw
              case rel => exact ⟨a + 1, by omega, by go_num, by rw [HI.out, ← HM.out], HE2.out.trans (by repeat (first | exact Ext.refl _ | refine Ext.alloc ?_ _ | assumption | refine Ext.over ?_ _ | refine Ext.drew ?_ | refine Ext.drewN ?_ _)), by go_simp, by go_simp⟩
              case measure => simp [intOf]; omega
            · have HI := hid (idxs_yes (p := gaP S.testBit l b) (k := a) (by rw [HG.out, hop]))
              go_wp2_with fail
              go_roundw
              case rel => exact ⟨a + 1, by omega, by go_num, by rw [HI.out, List.length_append, ← HM.out]; simp, HE2.out.trans (by repeat (first | exact Ext.refl _ | refine Ext.alloc ?_ _ | assumption | refine Ext.over ?_ _ | refine Ext.drew ?_ | refine Ext.drewN ?_ _)), by go_simp, by go_simp⟩
              case measure => simp [intOf]; omega
    · obtain rfl : a = h := by omega
      go_wp2_with fail
      go_ret
      exact ⟨by unfold gaL; rw [← HM.out]; rfl, HE.out⟩
end Go.Proofs.Ytngniniiohgilaa
