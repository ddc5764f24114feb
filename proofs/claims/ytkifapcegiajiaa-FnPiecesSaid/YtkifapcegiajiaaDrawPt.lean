/- Walks: points of floors are drawn. Conditions: sizes. -/
import Derived.Test.YtkifapcegiajiaaDrawR2
import Derived.Test.YtkifapcegiajiaaFloorS
import Derived.Test.YtkifapcegiajiaaFloorP
namespace Go.Proofs.Ytkifapcegiajiaa
open Go.RowKit
set_option linter.unusedVariables false

theorem floor_ne' {L : List T2} (hr : roomS L = true) : 0 < (floorL L).length := List.length_pos_of_mem (corner_floor hr (k := 0) (by have := (roomP_of hr).lo; omega))
set_option maxRecDepth 100000 in
set_option maxHeartbeats 1600000 in
theorem l08Point_any (g : Nat) (A : Option Addr) (n c : Nat) (L : List T2) (w : World) (hc : Cur w g) (hl : Row w A (L.flatMap T2.v)) (hn : L.length = n) (hro : roomS L = true) : Calls Try.prog 53 #[.pointer (some ⟨g, 0, none⟩), .agg #[.slice A n c]] w fun e w' => ∃ p : T2, e = .returned (.agg #[.int .i64 p.a, .int .i64 p.b]) ∧ p ∈ floorL L ∧ Drawn w w' g := by
  have hlow := hc.lt
  have HC := hid hc
  have HL := hid hl
  have hx : n ≤ 1048577 := by have := (roomP_of hro).hi; omega
  have HFR := hid (show floorR L = floorL L by unfold floorR; rw [hro]; rfl)
  have hfl := floor_len hro
  have hf0 := floor_ne' hro
  clear hc hl
  go_enter Try.func53, Try.ntmps53
  go_wp2_with fail
  refine (sFloor_any A n c L _ (HL.out.ext (by repeat (first | exact Ext.refl _ | refine Ext.alloc ?_ _ | assumption | refine Ext.over ?_ _ | refine Ext.drew ?_ | refine Ext.drewN ?_ _))) hn hx).mono ?_
  rintro _ w1 ⟨D, q, c1, rfl, ho, he⟩
  rw [HFR.out] at ho
  have hq := own_len2 ho
  have HB := hid (show w1.cell? ⟨w.heap.size + 1, 0, none⟩ = some (.int .i64 0) ∧ w1.cell? ⟨w.heap.size + 1, 1, none⟩ = some (.int .i64 0) ∧ w1.frozen? ⟨w.heap.size + 1, 0, none⟩ = false ∧ w1.frozen? ⟨w.heap.size + 1, 1, none⟩ = false from
    ⟨old_cell he (by go_simp), old_cell he (by go_simp), (Below.frozen he (by simp)).trans (by go_simp), (Below.frozen he (by simp)).trans (by go_simp)⟩)
  have HE := hid (Ext.trans (show Ext w _ by repeat (first | exact Ext.refl _ | refine Ext.alloc ?_ _ | assumption | refine Ext.over ?_ _ | refine Ext.drew ?_ | refine Ext.drewN ?_ _)) he)
  have hs1 : w.heap.size + 2 ≤ w1.heap.size := by have := he.size; simp at this; omega
  have HO := hid (own_base (base' := w.heap.size) ho (by simp; omega))
  clear ho he
  generalize hF : floorL L = F at *
  subst hq
  have hq0 : ((F.length : Int) == 0) = false := by rw [beq_eq_false_iff_ne]; omega
  have hqn : ¬ F.length = 0 := by omega
  go_wp2_with fail
  refine (l01BelowB_any g F.length w1 (HC.out.ext HE.out) (by omega) (by omega)).mono ?_
  rintro _ w2 ⟨v, rfl, v0, v1, hd⟩
  obtain ⟨k, rfl⟩ : ∃ k : Nat, v = k := ⟨v.toNat, by omega⟩
  have hk : k < F.length := by omega
  have hk' : (k : Int) < F.length := by omega
  have b2 : w2.heap[w.heap.size + 1]? = w1.heap[w.heap.size + 1]? := hd.1.block _ (by omega) (by intro e; injection e with e; omega)
  have p0 := (World.cell?_of_block (a := ⟨w.heap.size + 1, 0, none⟩) b2).trans HB.out.1
  have p1 := (World.cell?_of_block (a := ⟨w.heap.size + 1, 1, none⟩) b2).trans HB.out.2.1
  have q0 := (World.frozen?_of_block (a := ⟨w.heap.size + 1, 0, none⟩) b2).trans HB.out.2.2.1
  have q1 := (World.frozen?_of_block (a := ⟨w.heap.size + 1, 1, none⟩) b2).trans HB.out.2.2.2
  obtain ⟨bk, off, hB, hc⟩ := (Row.of_own (hd.own HO.out hlow)).t2 hk
  obtain ⟨c1, c2⟩ := hc k hk
  have HD := hid (Drawn.of_ext HE.out hd)
  have HM := hid (show at2 F k ∈ F by rw [at2_eq _ _ hk]; exact List.getElem_mem hk)
  subst hB
  clear hd hc b2 HB
  go_wp2_with fail
  refine bodyPost_ret (v := .agg #[.int .i64 (at2 F k).a, .int .i64 (at2 F k).b]) (by first | (simp [results, Try.results53, go_sem, p0, p1]; done) | (unfold results; rw [Try.results53]; go_simp)) rfl ?_
  exact ⟨at2 F k, rfl, by rw [hF]; exact HM.out, (HD.out.setc (by omega) hlow _).setc (by omega) hlow _⟩
end Go.Proofs.Ytkifapcegiajiaa
