/- Walks: a number below n is drawn; a cursor is made. Conditions: n at most 256; sizes. -/
import Derived.Test.YtkifapcegiajiaaDraw
namespace Go.Proofs.Ytkifapcegiajiaa
open Go.RowKit
set_option linter.unusedVariables false

set_option maxRecDepth 100000 in
set_option maxHeartbeats 1600000 in
theorem l01Below_any (g : Nat) (n : Int) (w : World) (hc : Cur w g) (hn : n ≤ 256) : Calls Try.prog 71 #[.pointer (some ⟨g, 0, none⟩), .int .i64 n] w (DrawsIn w g 0 (max 0 (n - 1))) := by
  by_cases h0 : n ≤ 0
  · go_enter Try.func71, Try.ntmps71
    go_wp2_with fail
    go_ret
    exact ⟨0, rfl, by omega, by omega, Drawn.refl hc⟩
  · go_enter Try.func71, Try.ntmps71
    go_wp2_with fail
    refine (l01Byte_any g w hc).mono ?_
    rintro _ w1 ⟨v, rfl, v0, v1, hd⟩
    have HD := hid hd
    have hm0 := Int.emod_nonneg v (show n ≠ 0 by omega)
    have hm1 := Int.emod_lt_of_pos v (show 0 < n by omega)
    have htm : v.tmod n = v % n := Int.tmod_eq_emod_of_nonneg v0
    clear hd
    go_wp2_with fail
    go_ret
    exact ⟨v % n, rfl, hm0, by omega, HD.out⟩
theorem CurAt.cur {w w' : World} {g : Nat} {C : Option Addr} {c : Nat} {bs : List Int} {h : Int} (h0 : w'.cell? ⟨g, 0, none⟩ = some (.slice C bs.length c)) (h1 : w'.cell? ⟨g, 1, none⟩ = some (.int .i64 0)) (h2 : w'.cell? ⟨g, 2, none⟩ = some (.int .i64 h)) (f1 : w'.frozen? ⟨g, 1, none⟩ = false) (f2 : w'.frozen? ⟨g, 2, none⟩ = false)
    (hr : Row w C (bs.map (Value.int .u8))) (hx : bs.length ≤ 1048576) (hz : ∀ z ∈ bs, 0 ≤ z ∧ z ≤ 255) (he : Ext w w') (hg : g = w.heap.size) : Cur w' g :=
  ⟨C, c, bs, 0, h, h0, h1, h2, f1, f2, hr.ext he, hx, by omega, fun hne b off hC => by
    obtain ⟨b', off', hC', hc⟩ := hr hne
    rw [hC] at hC'
    injection hC' with hC'
    injection hC' with e1 e2
    have hlen : 0 < (bs.map (Value.int .u8)).length := List.length_pos_iff.2 hne
    have := World.block_lt_of_cell? w _ (hc 0 _ (List.getElem?_eq_getElem hlen))
    rw [hg, e1]; exact this, hz⟩
set_option maxRecDepth 100000 in
set_option maxHeartbeats 1600000 in
theorem l01New_any (A : Option Addr) (n c : Nat) (bs : List Int) (w : World) (hl : Row w A (bs.map (Value.int .u8))) (hn : bs.length = n) (hx : n ≤ 1048576) (hz : ∀ z ∈ bs, 0 ≤ z ∧ z ≤ 255) :
    Calls Try.prog 42 #[.slice A n c] w fun e w' => ∃ g, e = .returned (.pointer (some ⟨g, 0, none⟩)) ∧ w.heap.size ≤ g ∧ Cur w' g ∧ Ext w w' := by
  subst hn
  have HZ := hid hz
  clear hz
  go_enter Try.func42, Try.ntmps42
  go_wp2_with fail
  go_loopw [3, 4] (fun hv iv wr => ∃ (i : Nat) (q : Int), i ≤ bs.length ∧ iv = .int .i64 ↑i ∧ hv = .int .i64 q ∧ 0 ≤ q ∧ q ≤ 1073741823 ∧ Ext w wr) (fun _ iv _ => bs.length - (intOf iv).toNat)
  case atStart => exact ⟨0, _, by omega, rfl, rfl, by omega, by omega, Ext.refl _⟩
  case round =>
    obtain ⟨i, q, hi, rfl, rfl, q0, q1, he⟩ := hrel
    have HE := hid he
    have hL := hl.ext he
    have HLR := hid hL
    clear he
    by_cases hlt : i < bs.length
    · by_cases h4 : (i : Int) < 4000
      · obtain ⟨b, off, rfl, hcell⟩ := hL.at_ (j := i) (by simpa using hlt)
        have hbyte := hcell i _ (by rw [List.getElem?_map, List.getElem?_eq_getElem hlt]; rfl)
        have hbz := HZ.out _ (List.getElem_mem hlt)
        generalize bs[i] = y at hbyte hbz
        have hbd := and30_bd (q * 131 + y + 7)
        clear hcell hL HLR
        go_wp2_with fail
        go_roundw
        case rel => exact ⟨i + 1, _, by omega, by go_num, rfl, hbd.1, hbd.2, HE.out⟩
        case measure => simp [intOf]; omega
      · clear hL
        go_wp2_with fail
        go_ret
        exact ⟨wr.heap.size, rfl, HE.out.size, CurAt.cur (c := c) (h := q) (by go_simp) (by go_simp) (by go_simp) (by go_simp) (by go_simp) HLR.out hx HZ.out (by repeat (first | exact Ext.refl _ | refine Ext.alloc ?_ _ | assumption | refine Ext.over ?_ _ | refine Ext.drew ?_ | refine Ext.drewN ?_ _)) rfl, HE.out.trans (by repeat (first | exact Ext.refl _ | refine Ext.alloc ?_ _ | assumption | refine Ext.over ?_ _ | refine Ext.drew ?_ | refine Ext.drewN ?_ _))⟩
    · clear hL
      go_wp2_with fail
      go_ret
      exact ⟨wr.heap.size, rfl, HE.out.size, CurAt.cur (c := c) (h := q) (by go_simp) (by go_simp) (by go_simp) (by go_simp) (by go_simp) HLR.out hx HZ.out (by repeat (first | exact Ext.refl _ | refine Ext.alloc ?_ _ | assumption | refine Ext.over ?_ _ | refine Ext.drew ?_ | refine Ext.drewN ?_ _)) rfl, HE.out.trans (by repeat (first | exact Ext.refl _ | refine Ext.alloc ?_ _ | assumption | refine Ext.over ?_ _ | refine Ext.drew ?_ | refine Ext.drewN ?_ _))⟩
end Go.Proofs.Ytkifapcegiajiaa
