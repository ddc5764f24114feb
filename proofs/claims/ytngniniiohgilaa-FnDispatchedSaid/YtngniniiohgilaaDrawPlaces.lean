/- Walks: l31Places. Conditions: sizes. -/
import Derived.Test.YtngniniiohgilaaDrawHouse
import Derived.Test.YtngniniiohgilaaDispI
namespace Go.Proofs.Ytngniniiohgilaa
open Go.RowKit
set_option linter.unusedVariables false

theorem Drawn.of_ext {w w1 w2 : World} {g : Nat} (e : Ext w w1) (h : Drawn w1 w2 g) : Drawn w w2 g := ⟨grown_then (ext_grown e (some g)) h.1 (.inl rfl), h.2⟩
theorem inH_app {h : Nat} {gs : List Int} {v : Int} (i : InH h gs) (h0 : 0 ≤ v) (h1 : v < h) : InH h (gs ++ [v]) := fun k hk => by
  rw [List.length_append] at hk
  have hk' : k < gs.length + 1 := hk
  rcases Nat.lt_or_ge k gs.length with h5 | h5
  · rw [atI_eq _ _ (by rw [List.length_append]; exact hk), List.getElem_append_left h5, ← atI_eq _ _ h5]; exact i k h5
  · obtain rfl : k = gs.length := by omega
    rw [atI_eq _ _ (by rw [List.length_append]; exact hk), List.getElem_append_right (Nat.le_refl _)]
    simp only [Nat.sub_self, List.getElem_cons_zero]
    exact ⟨h0, h1⟩
set_option maxRecDepth 100000 in
set_option maxHeartbeats 1600000 in
theorem l31Places_any (g h m c most : Nat) (D : Option Addr) (w : World) (hc : Cur w g) (h1 : 1 ≤ h) (h7 : h ≤ 7) (hm5 : most ≤ 5) : Calls Try.prog 58 #[.pointer (some ⟨g, 0, none⟩), .agg #[.int .i64 h, .slice D m c], .int .i64 most] w fun en w' =>
    ∃ (A : Option Addr) (r c' : Nat) (gs : List Int), en = .returned (.slice A r c') ∧ gs.length = r ∧ r ≤ most ∧ InH h gs ∧ w'.ownsRow w.heap.size 3 1 (.slice A r c') r (gs.map (Value.int .i64)) ∧ Drawn w w' g := by
  have hlow := hc.lt
  have HC := hid hc
  clear hc
  go_enter Try.func58, Try.ntmps58
  go_wp2_with fail
  have p0 : (w.alloc (.cells #[.int .i64 ↑h, .slice D m c] 26)).cell? ⟨w.heap.size, 0, none⟩ = some (.int .i64 ↑h) := by go_simp
  obtain ⟨wb, hwb⟩ : ∃ wb, wb = w.alloc (.cells #[.int .i64 ↑h, .slice D m c] 26) := ⟨_, rfl⟩
  have HBS := hid (show w.heap.size + 1 = wb.heap.size by rw [hwb]; simp)
  have EB := hid (show Ext w wb by rw [hwb]; repeat (first | exact Ext.refl _ | refine Ext.alloc ?_ _ | assumption | refine Ext.over ?_ _ | refine Ext.drew ?_ | refine Ext.drewN ?_ _))
  rw [← hwb] at p0
  rw [← hwb]
  clear hwb
  have hlb : g < wb.heap.size := by have := HBS.out; omega
  refine (l01Below_any g (most + 1) _ (HC.out.ext (EB.out.trans (by repeat (first | exact Ext.refl _ | refine Ext.alloc ?_ _ | assumption | refine Ext.over ?_ _ | refine Ext.drew ?_ | refine Ext.drewN ?_ _)))) (by omega)).mono ?_
  rintro _ w1 ⟨v, rfl, v0, v1, hd⟩
  obtain ⟨n, rfl⟩ : ∃ p : Nat, v = p := ⟨v.toNat, by omega⟩
  have hn5 : n ≤ most := by omega
  have HD1 := hid (Drawn.of_ext (show Ext wb _ by repeat (first | exact Ext.refl _ | refine Ext.alloc ?_ _ | assumption | refine Ext.over ?_ _ | refine Ext.drew ?_ | refine Ext.drewN ?_ _)) hd)
  have HO1 := hid (hd.own (own_empty wb (w.heap.size + 1) wb.heap.size HBS.out (Nat.le_refl _) 3 1) hlb)
  clear hd v0 v1
  go_wp2_with fail
  go_loopw [7, 9] (fun bv kv wr => ∃ (k : Nat) (A : Option Addr) (c' : Nat) (gs : List Int), k ≤ n ∧ kv = .int .i64 ↑k ∧ bv = .slice A k c' ∧ gs.length = k ∧ InH h gs ∧ wr.ownsRow wb.heap.size 3 1 (.slice A k c') k (gs.map (Value.int .i64)) ∧ Drawn wb wr g) (fun _ kv _ => n - (intOf kv).toNat)
  case atStart => exact ⟨0, _, _, [], by omega, rfl, rfl, rfl, (fun k hk => by cases hk), HO1.out, HD1.out⟩
  case round =>
    obtain ⟨k, A, c', gs, hk, rfl, rfl, hgl, hin, hown, hd⟩ := hrel
    have HO := hid hown
    have HD := hid hd
    have HI := hid hin
    have HGL := hid hgl
    have b0 : wr.cell? ⟨w.heap.size, 0, none⟩ = some (.int .i64 ↑h) := (hd.cell (p := ⟨w.heap.size, 0, none⟩) (by have := HBS.out; show w.heap.size < _; omega) (by show w.heap.size ≠ g; omega)).trans p0
    clear hown hd hin hgl HD1 HO1
    by_cases hlt : k < n
    · by_cases h2 : (1 : Int) < h
      all_goals
        go_wp2_with fail
        refine (l01Below_any g _ _ HD.out.2 (by omega)).mono ?_
        rintro _ w3 ⟨v, rfl, v0, v1, hd⟩
        have HD3 := hid (HD.out.trans hd)
        have HO3 := hid (hd.own HO.out hlb)
        have hv : v < h := by omega
        clear hd
        go_wp2_with (at_builtin; refine wpList_pushG rfl (.tmp 20) (.tmp 26) 31 rfl 3 Try.underlying31 info_int rfl (by decide) wb.heap.size _ k _ _ rfl w3 HO3.out (by repeat (first | exact Ext.refl _ | refine Ext.alloc ?_ _ | assumption | refine Ext.over ?_ _ | refine Ext.drew ?_ | refine Ext.drewN ?_ _)) HD3.out.size _ 1 1 [.int .i64 v] rfl rfl (lit_cells _ _ (by first | (simp; done) | simp [ovr_size]) _ _) (by intro u hu; simp at hu; subst hu; rfl) (by omega) (by decide) ?_)
        intro A4 c4 w4 hown4 hg4
        have HO4 := hid (show w4.ownsRow wb.heap.size 3 1 (.slice A4 (k + 1) c4) (k + 1) ((gs ++ [v]).map (Value.int .i64)) by rw [List.map_append]; exact hown4)
        have HD4 := hid (HD3.out.grown hg4 hlb (fun j hj => (HO3.out.lt j hj).1))
        clear hown4 hg4 HO3 HD3 b0
        go_wp2_with fail
        go_roundw
        case rel => exact ⟨k + 1, A4, c4, gs ++ [v], by omega, by go_num, rfl, by rw [List.length_append, HGL.out]; rfl, inH_app HI.out v0 hv, HO4.out, HD4.out⟩
        case measure => simp [intOf]; omega
    · obtain rfl : k = n := by omega
      go_wp2_with fail
      go_ret
      exact ⟨A, k, c', gs, rfl, HGL.out, hn5, HI.out, own_base HO.out (by have := HBS.out; omega), Drawn.of_ext EB.out HD.out⟩
end Go.Proofs.Ytngniniiohgilaa
