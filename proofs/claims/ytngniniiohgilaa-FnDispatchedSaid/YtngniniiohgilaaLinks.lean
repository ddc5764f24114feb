/- Walks: the halls behind the doors of a hall. Conditions: a house in form. -/
import Derived.Test.YtngniniiohgilaaDoor
namespace Go.Proofs.Ytngniniiohgilaa
open Go.RowKit
set_option linter.unusedVariables false

theorem info_int : (Try.prog.info? 3).map (fun i => (i.zero, i.size, i.bytes)) = some (some (.int .i64 0), 1, 8) := by kernel_rfl
def links (l : List T2) (x : Int) (h : Nat) : List Int := idxs (fun i => hasD l x i) h
theorem links_len (l : List T2) (x : Int) (h : Nat) : (links l x h).length ≤ h := idxs_len _ _
theorem old_cell {w1 w2 : World} (e : Ext w1 w2) {a : Addr} {u : Value} (h : w1.cell? a = some u) : w2.cell? a = some u := (Below.cell e (World.block_lt_of_cell? w1 a h)).trans h
theorem own_len1 {w : World} {base n : Nat} {e : TypeId} {v : Value} {cs : List Value} (h : w.ownsRow base e 1 v n cs) : cs.length = n := by have := h.1; omega
set_option maxHeartbeats 3200000 in
set_option maxRecDepth 100000 in
theorem linksOf_any (h : Nat) (A : Option Addr) (n c : Nat) (l : List T2) (x : Int) (w : World) (hl : Row w A (l.flatMap T2.v)) (hn : l.length = n) (hx : n ≤ 12) (h7 : h ≤ 7) (hf : doorsOk h l = true) :
    Calls Try.prog 44 #[.agg #[.int .i64 h, .slice A n c], .int .i64 x] w fun en w' => ∃ A' m' c', en = .returned (.slice A' m' c') ∧ w'.ownsRow w.heap.size 3 1 (.slice A' m' c') m' ((links l x h).map (Value.int .i64)) ∧ Ext w w' := by
  subst hn
  have HF := hid hf
  clear hf
  obtain ⟨wb, hwb⟩ : ∃ wb, wb = w.alloc (.cells #[.int .i64 ↑h, .slice A l.length c] 26) := ⟨_, rfl⟩
  have hew : Ext w wb := by rw [hwb]; repeat (first | exact Ext.refl _ | refine Ext.alloc ?_ _ | assumption | refine Ext.over ?_ _ | refine Ext.drew ?_ | refine Ext.drewN ?_ _)
  have hsz := hid (show wb.heap.size = w.heap.size + 1 by rw [hwb]; simp)
  have hb0 : wb.cell? ⟨w.heap.size, 0, none⟩ = some (.int .i64 ↑h) := by rw [hwb]; go_simp
  have hb1 : wb.cell? ⟨w.heap.size, 1, none⟩ = some (.slice A l.length c) := by rw [hwb]; go_simp
  go_enter Try.func44, Try.ntmps44
  go_wp2_with fail
  go_loopw [5, 6] (fun o i wr => ∃ (k : Nat) (A' : Option Addr) (m' c' : Nat), k ≤ h ∧ m' ≤ k ∧ i = .int .i64 ↑k ∧ o = .slice A' m' c' ∧ wr.ownsRow wb.heap.size 3 1 (.slice A' m' c') m' ((links l x k).map (Value.int .i64)) ∧ Ext wb wr) (fun _ i _ => (h - (intOf i).toNat))
  case atStart =>
    refine ⟨0, _, _, _, by omega, by omega, rfl, rfl, by rw [hwb]; exact own_empty _ _ _ (by simp) (by simp) _ _, by rw [hwb]; repeat (first | exact Ext.refl _ | refine Ext.alloc ?_ _ | assumption | refine Ext.over ?_ _ | refine Ext.drew ?_ | refine Ext.drewN ?_ _)⟩
  clear hwb
  case round =>
    obtain ⟨k, A', m', c', hk, hm, rfl, rfl, hown, he⟩ := hrel
    obtain ⟨xw, rfl⟩ := he.ex
    have b0 := old_cell he hb0
    have b1 := old_cell he hb1
    have HO := hid hown
    clear hown he
    by_cases hlt : k < h
    · go_wp2_with fail
      go_loopw [5, 19] (fun o i wr => ∃ (j : Nat) (A2 : Option Addr) (m2 c2 : Nat), j ≤ l.length ∧ m2 ≤ k + 1 ∧ i = .int .i64 ↑j ∧ o = .slice A2 m2 c2 ∧ wr.ownsRow wb.heap.size 3 1 (.slice A2 m2 c2) m2 ((linkTo l x k j).map (Value.int .i64)) ∧ Ext wb wr) (fun _ i _ => (l.length - (intOf i).toNat))
      case atStart =>
        refine ⟨0, _, _, _, by omega, by omega, rfl, rfl, ?_, by repeat (first | exact Ext.refl _ | refine Ext.alloc ?_ _ | assumption | refine Ext.over ?_ _ | refine Ext.drew ?_ | refine Ext.drewN ?_ _)⟩
        rw [linkTo_zero]
        exact HO.out
      case round =>
        obtain ⟨j, A2, m2, c2', hj, hm2, rfl, rfl, hown, he⟩ := hrel
        obtain ⟨xv, rfl⟩ := he.ex
        have b0 := old_cell he hb0
        have b1 := old_cell he hb1
        have HO2 := hid hown
        clear hown he
        by_cases hjt : j < l.length
        · obtain ⟨b, off, rfl, hc⟩ := (hl.ext (show Ext w (ovr wb xv) by repeat (first | exact Ext.refl _ | refine Ext.alloc ?_ _ | assumption | refine Ext.over ?_ _ | refine Ext.drew ?_ | refine Ext.drewN ?_ _))).t2 hjt
          obtain ⟨c1, c2⟩ := hc j (by omega)
          clear hc
          rcases Int.lt_trichotomy x k with hxk | hxk | hxk
          · skip
            have hi : ∀ d, isD d x k = (d.a == x && d.b == (k : Int)) := isD_le hxk
            cases g1 : ((at2 l j).a == x)
            · have HL := hid (linkTo_no (x := x) (k := k) hjt (by rw [hi, g1]; rfl))
              clear hi
              go_wp2_with fail
              go_roundw
              case rel => exact ⟨j + 1, _, m2, c2', by omega, by omega, by go_num, rfl, by rw [HL.out]; exact own_ext HO2.out (by repeat (first | exact Ext.refl _ | refine Ext.alloc ?_ _ | assumption | refine Ext.over ?_ _ | refine Ext.drew ?_ | refine Ext.drewN ?_ _)), by repeat (first | exact Ext.refl _ | refine Ext.alloc ?_ _ | assumption | refine Ext.over ?_ _ | refine Ext.drew ?_ | refine Ext.drewN ?_ _)⟩
              case measure => simp [intOf]; omega
            cases g2 : ((at2 l j).b == (k : Int))
            · have HL := hid (linkTo_no (x := x) (k := k) hjt (by rw [hi, g1, g2]; rfl))
              clear hi
              go_wp2_with fail
              go_roundw
              case rel => exact ⟨j + 1, _, m2, c2', by omega, by omega, by go_num, rfl, by rw [HL.out]; exact own_ext HO2.out (by repeat (first | exact Ext.refl _ | refine Ext.alloc ?_ _ | assumption | refine Ext.over ?_ _ | refine Ext.drew ?_ | refine Ext.drewN ?_ _)), by repeat (first | exact Ext.refl _ | refine Ext.alloc ?_ _ | assumption | refine Ext.over ?_ _ | refine Ext.drew ?_ | refine Ext.drewN ?_ _)⟩
              case measure => simp [intOf]; omega
            · have HL := hid (linkTo_yes (x := x) (k := k) HF.out hjt (by rw [hi, g1, g2]; rfl))
              clear hi
              go_wp2_with (at_builtin; refine wpList_push (wb) rfl (.tmp 32) (.tmp 34) 31 rfl 3 Try.underlying31 info_int rfl (by decide) _ m2 _ rfl (ovr wb xv) HO2.out (by repeat (first | exact Ext.refl _ | refine Ext.alloc ?_ _ | assumption | refine Ext.over ?_ _ | refine Ext.drew ?_ | refine Ext.drewN ?_ _)) (by repeat (first | exact Ext.refl _ | refine Ext.alloc ?_ _ | assumption | refine Ext.over ?_ _ | refine Ext.drew ?_ | refine Ext.drewN ?_ _)) _ 1 1 [.int .i64 (k)] rfl rfl (lit_cells _ _ (by first | (simp; done) | simp [ovr_size]) _ _) (by intro u hu; simp at hu; subst hu; rfl) (by omega) (by decide) ?_)
              intro A3 c3 w3 hown3 he3
              have HO3 := hid hown3
              clear hown3 HO2
              go_wp2_with fail
              go_roundw
              case rel =>
                have hlen := linkTo_len l x k (j + 1)
                have hm3 := own_len1 HO3.out
                rw [HL.out] at hlen
                refine ⟨j + 1, A3, m2 + 1, c3, by omega, by simp at hlen hm3; omega, by go_num, rfl, by rw [HL.out]; simpa using HO3.out, he3⟩
              case measure => simp [intOf]; omega
          · subst hxk
            have hi : ∀ d, isD d (k : Int) k = (d.a == (k : Int) && d.b == (k : Int)) := isD_same rfl
            cases g1 : ((at2 l j).a == (k : Int))
            · have HL := hid (linkTo_no (x := (k : Int)) (k := k) hjt (by rw [hi, g1]; rfl))
              clear hi
              go_wp2_with fail
              go_roundw
              case rel => exact ⟨j + 1, _, m2, c2', by omega, by omega, by go_num, rfl, by rw [HL.out]; exact own_ext HO2.out (by repeat (first | exact Ext.refl _ | refine Ext.alloc ?_ _ | assumption | refine Ext.over ?_ _ | refine Ext.drew ?_ | refine Ext.drewN ?_ _)), by repeat (first | exact Ext.refl _ | refine Ext.alloc ?_ _ | assumption | refine Ext.over ?_ _ | refine Ext.drew ?_ | refine Ext.drewN ?_ _)⟩
              case measure => simp [intOf]; omega
            cases g2 : ((at2 l j).b == (k : Int))
            · have HL := hid (linkTo_no (x := (k : Int)) (k := k) hjt (by rw [hi, g1, g2]; rfl))
              clear hi
              go_wp2_with fail
              go_roundw
              case rel => exact ⟨j + 1, _, m2, c2', by omega, by omega, by go_num, rfl, by rw [HL.out]; exact own_ext HO2.out (by repeat (first | exact Ext.refl _ | refine Ext.alloc ?_ _ | assumption | refine Ext.over ?_ _ | refine Ext.drew ?_ | refine Ext.drewN ?_ _)), by repeat (first | exact Ext.refl _ | refine Ext.alloc ?_ _ | assumption | refine Ext.over ?_ _ | refine Ext.drew ?_ | refine Ext.drewN ?_ _)⟩
              case measure => simp [intOf]; omega
            · have HL := hid (linkTo_yes (x := (k : Int)) (k := k) HF.out hjt (by rw [hi, g1, g2]; rfl))
              clear hi
              go_wp2_with (at_builtin; refine wpList_push (wb) rfl (.tmp 32) (.tmp 34) 31 rfl 3 Try.underlying31 info_int rfl (by decide) _ m2 _ rfl (ovr wb xv) HO2.out (by repeat (first | exact Ext.refl _ | refine Ext.alloc ?_ _ | assumption | refine Ext.over ?_ _ | refine Ext.drew ?_ | refine Ext.drewN ?_ _)) (by repeat (first | exact Ext.refl _ | refine Ext.alloc ?_ _ | assumption | refine Ext.over ?_ _ | refine Ext.drew ?_ | refine Ext.drewN ?_ _)) _ 1 1 [.int .i64 (k)] rfl rfl (lit_cells _ _ (by first | (simp; done) | simp [ovr_size]) _ _) (by intro u hu; simp at hu; subst hu; rfl) (by omega) (by decide) ?_)
              intro A3 c3 w3 hown3 he3
              have HO3 := hid hown3
              clear hown3 HO2
              go_wp2_with fail
              go_roundw
              case rel =>
                have hlen := linkTo_len l (k : Int) k (j + 1)
                have hm3 := own_len1 HO3.out
                rw [HL.out] at hlen
                refine ⟨j + 1, A3, m2 + 1, c3, by omega, by simp at hlen hm3; omega, by go_num, rfl, by rw [HL.out]; simpa using HO3.out, he3⟩
              case measure => simp [intOf]; omega
          · skip
            have hi : ∀ d, isD d x k = (d.a == (k : Int) && d.b == x) := isD_lt hxk
            cases g1 : ((at2 l j).a == (k : Int))
            · have HL := hid (linkTo_no (x := x) (k := k) hjt (by rw [hi, g1]; rfl))
              clear hi
              go_wp2_with fail
              go_roundw
              case rel => exact ⟨j + 1, _, m2, c2', by omega, by omega, by go_num, rfl, by rw [HL.out]; exact own_ext HO2.out (by repeat (first | exact Ext.refl _ | refine Ext.alloc ?_ _ | assumption | refine Ext.over ?_ _ | refine Ext.drew ?_ | refine Ext.drewN ?_ _)), by repeat (first | exact Ext.refl _ | refine Ext.alloc ?_ _ | assumption | refine Ext.over ?_ _ | refine Ext.drew ?_ | refine Ext.drewN ?_ _)⟩
              case measure => simp [intOf]; omega
            cases g2 : ((at2 l j).b == x)
            · have HL := hid (linkTo_no (x := x) (k := k) hjt (by rw [hi, g1, g2]; rfl))
              clear hi
              go_wp2_with fail
              go_roundw
              case rel => exact ⟨j + 1, _, m2, c2', by omega, by omega, by go_num, rfl, by rw [HL.out]; exact own_ext HO2.out (by repeat (first | exact Ext.refl _ | refine Ext.alloc ?_ _ | assumption | refine Ext.over ?_ _ | refine Ext.drew ?_ | refine Ext.drewN ?_ _)), by repeat (first | exact Ext.refl _ | refine Ext.alloc ?_ _ | assumption | refine Ext.over ?_ _ | refine Ext.drew ?_ | refine Ext.drewN ?_ _)⟩
              case measure => simp [intOf]; omega
            · have HL := hid (linkTo_yes (x := x) (k := k) HF.out hjt (by rw [hi, g1, g2]; rfl))
              clear hi
              go_wp2_with (at_builtin; refine wpList_push (wb) rfl (.tmp 32) (.tmp 34) 31 rfl 3 Try.underlying31 info_int rfl (by decide) _ m2 _ rfl (ovr wb xv) HO2.out (by repeat (first | exact Ext.refl _ | refine Ext.alloc ?_ _ | assumption | refine Ext.over ?_ _ | refine Ext.drew ?_ | refine Ext.drewN ?_ _)) (by repeat (first | exact Ext.refl _ | refine Ext.alloc ?_ _ | assumption | refine Ext.over ?_ _ | refine Ext.drew ?_ | refine Ext.drewN ?_ _)) _ 1 1 [.int .i64 (k)] rfl rfl (lit_cells _ _ (by first | (simp; done) | simp [ovr_size]) _ _) (by intro u hu; simp at hu; subst hu; rfl) (by omega) (by decide) ?_)
              intro A3 c3 w3 hown3 he3
              have HO3 := hid hown3
              clear hown3 HO2
              go_wp2_with fail
              go_roundw
              case rel =>
                have hlen := linkTo_len l x k (j + 1)
                have hm3 := own_len1 HO3.out
                rw [HL.out] at hlen
                refine ⟨j + 1, A3, m2 + 1, c3, by omega, by simp at hlen hm3; omega, by go_num, rfl, by rw [HL.out]; simpa using HO3.out, he3⟩
              case measure => simp [intOf]; omega
        · go_wp2_with fail
          go_roundw
          case rel =>
            have hle : l.length ≤ j := by omega
            exact ⟨k + 1, _, m2, c2', by omega, hm2, by go_num, rfl, by have := HO2.out; rw [linkTo_all hle] at this; exact this, by repeat (first | exact Ext.refl _ | refine Ext.alloc ?_ _ | assumption | refine Ext.over ?_ _ | refine Ext.drew ?_ | refine Ext.drewN ?_ _)⟩
          case measure => simp [intOf]; omega
    · go_wp2_with fail
      go_ret
      obtain rfl : k = h := by omega
      exact ⟨_, _, _, rfl, own_base HO.out (by have := hsz.out; omega), by repeat (first | exact Ext.refl _ | refine Ext.alloc ?_ _ | assumption | refine Ext.over ?_ _ | refine Ext.drew ?_ | refine Ext.drewN ?_ _)⟩
end Go.Proofs.Ytngniniiohgilaa
