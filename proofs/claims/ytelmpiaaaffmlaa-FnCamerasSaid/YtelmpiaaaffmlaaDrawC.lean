/- Walks: points of floors and cameras are drawn. Conditions: sizes. -/
import Derived.Test.YtelmpiaaaffmlaaDrawR2
import Derived.Test.YtelmpiaaaffmlaaFloorS
import Derived.Test.YtelmpiaaaffmlaaFloorP
import Derived.Test.YtelmpiaaaffmlaaCam
namespace Go.Proofs.Ytelmpiaaaffmlaa
open Go.RowKit
set_option linter.unusedVariables false

theorem floor_ne' {L : List T2} (hr : roomS L = true) : 0 < (floorL L).length := List.length_pos_of_mem (corner_floor hr (k := 0) (by have := (roomP_of hr).lo; omega))
set_option maxRecDepth 100000 in
set_option maxHeartbeats 1600000 in
theorem l08Point_any (g : Nat) (A : Option Addr) (n c : Nat) (L : List T2) (w : World) (hc : Cur w g) (hl : Row w A (L.flatMap T2.v)) (hn : L.length = n) (hro : roomS L = true) : Calls Try.prog 25 #[.pointer (some ⟨g, 0, none⟩), .agg #[.slice A n c]] w fun e w' => ∃ p : T2, e = .returned (.agg #[.int .i64 p.a, .int .i64 p.b]) ∧ p ∈ floorL L ∧ Drawn w w' g := by
  have hlow := hc.lt
  have HC := hid hc
  have HL := hid hl
  have hx : n ≤ 1048577 := by have := (roomP_of hro).hi; omega
  have HFR := hid (show floorR L = floorL L by unfold floorR; rw [hro]; rfl)
  have hfl := floor_len hro
  have hf0 := floor_ne' hro
  clear hc hl
  go_enter Try.func25, Try.ntmps25
  go_wp2_with fail
  refine (sFloor_any A n c L _ (HL.out.ext (by repeat (first | exact Ext.refl _ | refine Ext.alloc ?_ _ | assumption | refine Ext.over ?_ _ | refine Ext.drew ?_ | refine Ext.drewN ?_ _))) hn hx).mono ?_
  rintro _ w1 ⟨D, q, c1, rfl, ho, he⟩
  rw [HFR.out] at ho
  have hq := own_len2 ho
  have HB := hid (show w1.cell? ⟨w.heap.size + 1, 0, none⟩ = some (.int .i64 0) ∧ w1.cell? ⟨w.heap.size + 1, 1, none⟩ = some (.int .i64 0) ∧ w1.frozen? ⟨w.heap.size + 1, 0, none⟩ = false ∧ w1.frozen? ⟨w.heap.size + 1, 1, none⟩ = false from
    ⟨old_cell he (by go_simp), old_cell he (by go_simp), (Below.frozen he (by simp)).trans (by go_simp), (Below.frozen he (by simp)).trans (by go_simp)⟩)
  have HE := hid (Ext.trans (show Ext w _ by repeat (first | exact Ext.refl _ | refine Ext.alloc ?_ _ | assumption | refine Ext.over ?_ _ | refine Ext.drew ?_ | refine Ext.drewN ?_ _)) he)
  have hs1 : w.heap.size + 2 ≤ w1.heap.size := by have := he.size; simp at this; omega
  have HO := hid (own_base (base' := w.heap.size) ho (by simp; omega))
  clear ho he
  generalize hF : floorL L = F at *
  subst hq
  have hq0 : ((F.length : Int) == 0) = false := by rw [beq_eq_false_iff_ne]; omega
  have hqn : ¬ F.length = 0 := by omega
  go_wp2_with fail
  refine (l01BelowB_any g F.length w1 (HC.out.ext HE.out) (by omega) (by omega)).mono ?_
  rintro _ w2 ⟨v, rfl, v0, v1, hd⟩
  obtain ⟨k, rfl⟩ : ∃ k : Nat, v = k := ⟨v.toNat, by omega⟩
  have hk : k < F.length := by omega
  have hk' : (k : Int) < F.length := by omega
  have b2 : w2.heap[w.heap.size + 1]? = w1.heap[w.heap.size + 1]? := hd.1.block _ (by omega) (by intro e; injection e with e; omega)
  have p0 := (World.cell?_of_block (a := ⟨w.heap.size + 1, 0, none⟩) b2).trans HB.out.1
  have p1 := (World.cell?_of_block (a := ⟨w.heap.size + 1, 1, none⟩) b2).trans HB.out.2.1
  have q0 := (World.frozen?_of_block (a := ⟨w.heap.size + 1, 0, none⟩) b2).trans HB.out.2.2.1
  have q1 := (World.frozen?_of_block (a := ⟨w.heap.size + 1, 1, none⟩) b2).trans HB.out.2.2.2
  obtain ⟨bk, off, hB, hc⟩ := (Row.of_own (hd.own HO.out hlow)).t2 hk
  obtain ⟨c1, c2⟩ := hc k hk
  have HD := hid (Drawn.of_ext HE.out hd)
  have HM := hid (show at2 F k ∈ F by rw [at2_eq _ _ hk]; exact List.getElem_mem hk)
  subst hB
  clear hd hc b2 HB
  go_wp2_with fail
  refine bodyPost_ret (v := .agg #[.int .i64 (at2 F k).a, .int .i64 (at2 F k).b]) (by first | (simp [results, Try.results25, go_sem, p0, p1]; done) | (unfold results; rw [Try.results25]; go_simp)) rfl ?_
  exact ⟨at2 F k, rfl, by rw [hF]; exact HM.out, (HD.out.setc (by omega) hlow _).setc (by omega) hlow _⟩
/-- A drawn camera at a point. -/
def CamD (p : T2) (x : T7) : Prop := (x.a = p.a ∧ x.b = p.b) ∧ ((-2 ≤ x.c - x.a ∧ x.c - x.a ≤ 2) ∧ (-2 ≤ x.d - x.b ∧ x.d - x.b ≤ 2) ∧ (-3 ≤ x.e - x.a ∧ x.e - x.a ≤ 3) ∧ (-3 ≤ x.f - x.b ∧ x.f - x.b ≤ 3)) ∧ 0 < (x.c - x.a) * (x.f - x.b) - (x.d - x.b) * (x.e - x.a) ∧ (1 ≤ x.g ∧ x.g ≤ 9)
def tabX (k : Nat) : Int := atI [1, 1, 0, -1, 0, 2] k
def tabY (k : Nat) : Int := atI [0, 1, 1, 0, -1, 1] k
def tabU (k : Nat) : Int := atI [0, -1, -1, 0, 1, -1] k
def tabV (k : Nat) : Int := atI [1, 1, 0, -1, 0, 3] k
theorem tab_ok (k : Nat) (hk : k < 6) : (-2 ≤ tabX k ∧ tabX k ≤ 2) ∧ (-2 ≤ tabY k ∧ tabY k ≤ 2) ∧ (-3 ≤ tabU k ∧ tabU k ≤ 3) ∧ (-3 ≤ tabV k ∧ tabV k ≤ 3) ∧ 0 < tabX k * tabV k - tabY k * tabU k := by
  rcases (show k = 0 ∨ k = 1 ∨ k = 2 ∨ k = 3 ∨ k = 4 ∨ k = 5 by omega) with rfl | rfl | rfl | rfl | rfl | rfl <;> decide
theorem lit_at {w w' : World} {b : Nat} {l : List Int} {t : TypeId} (hb : b = w.heap.size) (he : Ext (w.alloc (.cells (l.map (Value.int .i64)).toArray t)) w') {k : Nat} (hk : k < l.length) : w'.cell? ⟨b, k, none⟩ = some (.int .i64 (atI l k)) := by
  subst hb
  refine old_cell he ?_
  rw [World.cell?_alloc_new]
  simp only [List.getElem?_toArray, List.getElem?_map, List.getElem?_eq_getElem hk, Option.map_some, atI_eq _ _ hk]
set_option maxRecDepth 100000 in
set_option maxHeartbeats 3200000 in
theorem l25Camera_any (g : Nat) (p : T2) (w : World) (hc : Cur w g) (hp : near 18 p) : Calls Try.prog 26 #[.pointer (some ⟨g, 0, none⟩), .agg #[.int .i64 p.a, .int .i64 p.b]] w fun e w' => ∃ x : T7, e = .returned (.agg #[.int .i64 x.a, .int .i64 x.b, .int .i64 x.c, .int .i64 x.d, .int .i64 x.e, .int .i64 x.f, .int .i64 x.g]) ∧ CamD p x ∧ Drawn w w' g := by
  have hlow := hc.lt
  have HC := hid hc
  have hp' := hp
  unfold near at hp'
  clear hc
  go_enter Try.func26, Try.ntmps26
  go_wp2_with fail
  obtain ⟨wb, hwb⟩ : ∃ wb, wb = (w.alloc (.cells #[.int .i64 p.a, .int .i64 p.b] 28)).alloc (.cells #[.int .i64 0, .int .i64 0, .int .i64 0, .int .i64 0, .int .i64 0, .int .i64 0, .int .i64 0] 30) := ⟨_, rfl⟩
  have EB : Ext w wb := by rw [hwb]; repeat (first | exact Ext.refl _ | refine Ext.alloc ?_ _ | assumption | refine Ext.over ?_ _ | refine Ext.drew ?_ | refine Ext.drewN ?_ _)
  have a0 : wb.cell? ⟨w.heap.size, 0, none⟩ = some (.int .i64 p.a) := by rw [hwb]; go_simp
  have a1 : wb.cell? ⟨w.heap.size, 1, none⟩ = some (.int .i64 p.b) := by rw [hwb]; go_simp
  have HB := hid (show ∀ j, j < 7 → wb.cell? ⟨w.heap.size + 1, j, none⟩ = some (.int .i64 0) ∧ wb.frozen? ⟨w.heap.size + 1, j, none⟩ = false from fun j hj => by
    rw [hwb]
    rcases (show j = 0 ∨ j = 1 ∨ j = 2 ∨ j = 3 ∨ j = 4 ∨ j = 5 ∨ j = 6 by omega) with rfl | rfl | rfl | rfl | rfl | rfl | rfl <;> exact ⟨by go_simp, by go_simp⟩)
  have HSB := hid (show w.heap.size + 1 < wb.heap.size by rw [hwb]; simp)
  refine (l01Below_any g 6 _ (HC.out.ext (by repeat (first | exact Ext.refl _ | refine Ext.alloc ?_ _ | assumption | refine Ext.over ?_ _ | refine Ext.drew ?_ | refine Ext.drewN ?_ _))) (by omega)).mono ?_
  rw [← hwb]
  clear hwb
  rintro _ w1 ⟨v, rfl, v0, v1, hd⟩
  obtain ⟨k, rfl⟩ : ∃ k : Nat, v = k := ⟨v.toNat, by omega⟩
  have hk6 : k < 6 := by omega
  have hk' : (k : Int) < 6 := by omega
  have HD := hid (Drawn.of_ext EB hd)
  have a0 := (hd.cell (p := ⟨w.heap.size, 0, none⟩) (by have := HSB.out; show w.heap.size < _; omega) (by show w.heap.size ≠ g; omega)).trans a0
  have a1 := (hd.cell (p := ⟨w.heap.size, 1, none⟩) (by have := HSB.out; show w.heap.size < _; omega) (by show w.heap.size ≠ g; omega)).trans a1
  have hbb : w1.heap[w.heap.size + 1]? = wb.heap[w.heap.size + 1]? := hd.1.block _ HSB.out (by intro e; injection e with e; omega)
  have HB1 := hid (show ∀ j, j < 7 → w1.cell? ⟨w.heap.size + 1, j, none⟩ = some (.int .i64 0) ∧ w1.frozen? ⟨w.heap.size + 1, j, none⟩ = false from fun j hj => ⟨(World.cell?_of_block (a := ⟨w.heap.size + 1, j, none⟩) hbb).trans (HB.out j hj).1, (World.frozen?_of_block (a := ⟨w.heap.size + 1, j, none⟩) hbb).trans (HB.out j hj).2⟩)
  have hs1 : w.heap.size + 1 < w1.heap.size := by have := hd.size; have := HSB.out; omega
  have hgw : g < w1.heap.size := hd.2.lt
  clear hd v0 v1 HB hbb EB HSB
  have ht := tab_ok k hk6
  go_wp2_with fail
  obtain ⟨w2, hw2⟩ : ∃ w2, w2 = (((w1.alloc (.cells #[.int .i64 1, .int .i64 1, .int .i64 0, .int .i64 (-1), .int .i64 0, .int .i64 2] 3)).alloc (.cells #[.int .i64 0, .int .i64 1, .int .i64 1, .int .i64 0, .int .i64 (-1), .int .i64 1] 3)).alloc (.cells #[.int .i64 0, .int .i64 (-1), .int .i64 (-1), .int .i64 0, .int .i64 1, .int .i64 (-1)] 3)).alloc (.cells #[.int .i64 1, .int .i64 1, .int .i64 0, .int .i64 (-1), .int .i64 0, .int .i64 3] 3) := ⟨_, rfl⟩
  have E2 : Ext w1 w2 := by rw [hw2]; repeat (first | exact Ext.refl _ | refine Ext.alloc ?_ _ | assumption | refine Ext.over ?_ _ | refine Ext.drew ?_ | refine Ext.drewN ?_ _)
  have x0 : w2.cell? ⟨w1.heap.size, k, none⟩ = some (.int .i64 (tabX k)) := by rw [hw2]; exact lit_at (w := w1) (l := [1, 1, 0, -1, 0, 2]) (t := 3) rfl (by repeat (first | exact Ext.refl _ | refine Ext.alloc ?_ _ | assumption | refine Ext.over ?_ _ | refine Ext.drew ?_ | refine Ext.drewN ?_ _)) hk6
  have x1 : w2.cell? ⟨w1.heap.size + 1, k, none⟩ = some (.int .i64 (tabY k)) := by rw [hw2]; exact lit_at (w := w1.alloc _) (l := [0, 1, 1, 0, -1, 1]) (t := 3) (by simp) (by repeat (first | exact Ext.refl _ | refine Ext.alloc ?_ _ | assumption | refine Ext.over ?_ _ | refine Ext.drew ?_ | refine Ext.drewN ?_ _)) hk6
  have x2 : w2.cell? ⟨w1.heap.size + 1 + 1, k, none⟩ = some (.int .i64 (tabU k)) := by rw [hw2]; exact lit_at (w := (w1.alloc _).alloc _) (l := [0, -1, -1, 0, 1, -1]) (t := 3) (by simp) (by repeat (first | exact Ext.refl _ | refine Ext.alloc ?_ _ | assumption | refine Ext.over ?_ _ | refine Ext.drew ?_ | refine Ext.drewN ?_ _)) hk6
  have x3 : w2.cell? ⟨w1.heap.size + 1 + 1 + 1, k, none⟩ = some (.int .i64 (tabV k)) := by rw [hw2]; exact lit_at (w := ((w1.alloc _).alloc _).alloc _) (l := [1, 1, 0, -1, 0, 3]) (t := 3) (by simp) (by repeat (first | exact Ext.refl _ | refine Ext.alloc ?_ _ | assumption | refine Ext.over ?_ _ | refine Ext.drew ?_ | refine Ext.drewN ?_ _)) hk6
  rw [← hw2]
  have a0 := old_cell E2 a0
  have a1 := old_cell E2 a1
  have HB2 := hid (show ∀ j, j < 7 → w2.cell? ⟨w.heap.size + 1, j, none⟩ = some (.int .i64 0) ∧ w2.frozen? ⟨w.heap.size + 1, j, none⟩ = false from fun j hj => ⟨old_cell E2 (HB1.out j hj).1, (Below.frozen E2 (World.block_lt_of_cell? w1 _ (HB1.out j hj).1)).trans (HB1.out j hj).2⟩)
  have HD2 := hid (HD.out.ext E2)
  have hs2 : w.heap.size + 1 < w2.heap.size := by have := E2.size; omega
  obtain ⟨g0, hg0⟩ : ∃ g0, g0 = w1.heap.size := ⟨_, rfl⟩
  rw [← hg0] at x0 x1 x2 x3 ⊢
  have n0 : ¬ g0 = g := by omega
  have n1 : ¬ g0 + 1 = g := by omega
  have n2 : ¬ g0 + 1 + 1 = g := by omega
  have n3 : ¬ g0 + 1 + 1 + 1 = g := by omega
  have n4 : ¬ w.heap.size = g := by omega
  clear hw2 E2 HB1 HD hg0 hgw
  obtain ⟨X, hX⟩ : ∃ X, X = tabX k := ⟨_, rfl⟩
  obtain ⟨Y, hY⟩ : ∃ Y, Y = tabY k := ⟨_, rfl⟩
  obtain ⟨U, hU⟩ : ∃ U, U = tabU k := ⟨_, rfl⟩
  obtain ⟨V, hV⟩ : ∃ V, V = tabV k := ⟨_, rfl⟩
  rw [← hX] at x0 ht
  rw [← hY] at x1 ht
  rw [← hU] at x2 ht
  rw [← hV] at x3 ht
  clear hX hY hU hV
  refine wp_region_e (LaterG g g) (laterG_steady _ _) [.q 0, .q 1, .q 2, .q 3, .q 4, .q 5, .q 6, .q 7, .q 8, .q 9, .q 10, .q 11, .q 12, .q 13, .q 14, .q 15, .q 16, .q 17, .q 18, .q 19, .q 20, .q 21, .q 22, .q 23, .q 24, .q 25, .q 26, .q 27, .q 28, .q 29, .q 30, .q 31, .u 32, .u 33, .u 34] 35 _ rfl (by kernel_rfl) (by kernel_rfl) (fun w3 e3 => ?_)
  have a0 := old_cell e3 a0
  have a1 := old_cell e3 a1
  have x0 := old_cell e3 x0
  have x1 := old_cell e3 x1
  have x2 := old_cell e3 x2
  have x3 := old_cell e3 x3
  have HB3 := hid (show ∀ j, j < 7 → w3.cell? ⟨w.heap.size + 1, j, none⟩ = some (.int .i64 0) ∧ w3.frozen? ⟨w.heap.size + 1, j, none⟩ = false from fun j hj => ⟨old_cell e3 (HB2.out j hj).1, (Below.frozen e3 (World.block_lt_of_cell? w2 _ (HB2.out j hj).1)).trans (HB2.out j hj).2⟩)
  have HD3 := hid (HD2.out.ext e3)
  have hs3 : w.heap.size + 1 < w3.heap.size := by have := e3.size; omega
  have r1 : IntKind.i64.wrap (p.a + X) = p.a + X := IntWalk.i64_in _ (by omega)
  have r2 : IntKind.i64.wrap (p.b + Y) = p.b + Y := IntWalk.i64_in _ (by omega)
  have r3 : IntKind.i64.wrap (p.a + U) = p.a + U := IntWalk.i64_in _ (by omega)
  have r4 : IntKind.i64.wrap (p.b + V) = p.b + V := IntWalk.i64_in _ (by omega)
  clear e3 HB2 HD2
  simp only [pick, List.getElem?_cons_succ, List.getElem?_cons_zero]
  repeat (refine wpE_q (fun K hK => ?_); go_simp; refine hK _ ?_; clear hK K)
  refine wpE_u ?_
  refine stepH_of (fun K hK => ?_)
  go_simp
  refine (l01Below_any g 9 w3 HD3.out.2 (by omega)).mono ?_
  rintro _ w4 ⟨r, rfl, v0, v1, hd⟩
  refine ⟨_, rfl, hK _ _ (laterG_of (Kept.grown hd.1)) ?_⟩; clear hK K
  have hbb : w4.heap[w.heap.size + 1]? = w3.heap[w.heap.size + 1]? := hd.1.block _ hs3 (by intro e; injection e with e; omega)
  have HB4 := hid (show ∀ j, j < 7 → w4.cell? ⟨w.heap.size + 1, j, none⟩ = some (.int .i64 0) ∧ w4.frozen? ⟨w.heap.size + 1, j, none⟩ = false from fun j hj => ⟨(World.cell?_of_block (a := ⟨w.heap.size + 1, j, none⟩) hbb).trans (HB3.out j hj).1, (World.frozen?_of_block (a := ⟨w.heap.size + 1, j, none⟩) hbb).trans (HB3.out j hj).2⟩)
  have HD4 := hid (HD3.out.trans hd)
  clear hd hbb HB3 HD3 a0 a1 x0 x1 x2 x3
  have r5 : IntKind.i64.wrap (1 + r) = 1 + r := IntWalk.i64_in _ (by omega)
  ((first | refine wpE_u ?_ | skip); refine stepH_of (fun K hK => ?_); go_simp; refine hK _ _ (laterG_of (Kept.refl _ _ _)) ?_; clear hK K)
  ((first | refine wpE_u ?_ | skip); refine stepH_of (fun K hK => ?_); go_simp; refine hK _ _ (laterG_of (Kept.refl _ _ _)) ?_; clear hK K)
  obtain ⟨z0, f0⟩ := HB4.out 0 (by omega)
  obtain ⟨z1, f1⟩ := HB4.out 1 (by omega)
  obtain ⟨z2, f2⟩ := HB4.out 2 (by omega)
  obtain ⟨z3, f3⟩ := HB4.out 3 (by omega)
  obtain ⟨z4, f4⟩ := HB4.out 4 (by omega)
  obtain ⟨z5, f5⟩ := HB4.out 5 (by omega)
  obtain ⟨z6, f6⟩ := HB4.out 6 (by omega)
  refine wpE_nil (fun K hK => ?_)
  go_simp
  refine hK _ _ ?_; clear hK K
  go_wp2_with fail
  refine bodyPost_ret (v := .agg #[.int .i64 p.a, .int .i64 p.b, .int .i64 (p.a + X), .int .i64 (p.b + Y), .int .i64 (p.a + U), .int .i64 (p.b + V), .int .i64 (1 + r)]) (by first | (simp [results, Try.results26, go_sem, z0, z1, z2, z3, z4, z5, z6]; done) | (unfold results; rw [Try.results26]; go_simp)) rfl ?_
  refine ⟨⟨p.a, p.b, p.a + X, p.b + Y, p.a + U, p.b + V, 1 + r⟩, rfl, ?_, ?_⟩
  · unfold CamD
    dsimp only
    have e1 : p.a + X - p.a = X := by omega
    have e2 : p.b + Y - p.b = Y := by omega
    have e3 : p.a + U - p.a = U := by omega
    have e4 : p.b + V - p.b = V := by omega
    rw [e1, e2, e3, e4]
    exact ⟨⟨rfl, rfl⟩, ⟨ht.1, ht.2.1, ht.2.2.1, ht.2.2.2.1⟩, ht.2.2.2.2, by omega⟩
  · exact (((((((HD4.out.setc (b := w.heap.size + 1) (i := 0) (Nat.le_succ _) hlow _).setc (b := w.heap.size + 1) (i := 1) (Nat.le_succ _) hlow _).setc (b := w.heap.size + 1) (i := 2) (Nat.le_succ _) hlow _).setc (b := w.heap.size + 1) (i := 3) (Nat.le_succ _) hlow _).setc (b := w.heap.size + 1) (i := 4) (Nat.le_succ _) hlow _).setc (b := w.heap.size + 1) (i := 5) (Nat.le_succ _) hlow _).setc (b := w.heap.size + 1) (i := 6) (Nat.le_succ _) hlow _)
end Go.Proofs.Ytelmpiaaaffmlaa
