/- Walks: fields of cameras, turned cameras. No condition. -/
import Derived.Test.YtneicnbbohiapaaGeo
import Derived.Test.YtneicnbbohiapaaHer2
namespace Go.Proofs.Ytneicnbbohiapaa
open Go.RowKit
set_option linter.unusedVariables false

def inFR (x : T7) (px py : Int) : Bool := decide (0 ≤ turnW x.a x.b x.c x.d px py)
def inFL (x : T7) (px py : Int) : Bool := decide (0 ≤ turnW x.a x.b px py x.e x.f)
def inFS (x : T7) (px py : Int) : Bool := decide (squareW x.a x.b px py ≤ wrap64 (x.g * x.g))
def inF (x : T7) (px py : Int) : Bool := inFR x px py && (inFL x px py && inFS x px py)
def inFld (x : T7) (px py : Int) : Bool := camOk x && (pok px py && inF x px py)
theorem gives_b {P : Program} {f : FuncId} {args : Array Value} {w : World} {p b : Bool} (h : p = b) (g : Gives P f args w (.bool p)) : Gives P f args w (.bool b) := h ▸ g
theorem inField_any (x : T7) (px py : Int) (w : World) : Gives Try.prog 55 #[camV x, .agg #[.int .i64 px, .int .i64 py]] w (.bool (inF x px py)) := by
  unfold camV
  cases h1 : decide (0 ≤ turnW x.a x.b x.c x.d px py)
  · have HC := hid (show inF x px py = false by unfold inF inFR; rw [h1]; rfl)
    (unfold Gives; go_enter Try.func55, Try.ntmps55)
    go_wp2_with fail
    (refine wp_region_calm (by kernel_rfl) (by kernel_rfl) ?_; (repeat (go_big_quiet_step (first | (go_at_call 51; exact (iturn_any _ _ _ _ _ _ _).calm) | (go_at_call 73; exact (square_any _ _ _ _ _).calm)))); refine wpQuiet_nil ?_; rintro w1 ⟨x1, rfl⟩)
    go_wp2_with fail
    go_ret
    refine ⟨by rw [HC.out]; rfl, ?_⟩
    repeat (first | exact Ext.refl _ | refine Ext.alloc ?_ _ | assumption | refine Ext.over ?_ _ | refine Ext.drew ?_ | refine Ext.drewN ?_ _)
  cases h2 : decide (0 ≤ turnW x.a x.b px py x.e x.f)
  · have HC := hid (show inF x px py = false by unfold inF inFL; rw [h2]; simp)
    (unfold Gives; go_enter Try.func55, Try.ntmps55)
    go_wp2_with fail
    (refine wp_region_calm (by kernel_rfl) (by kernel_rfl) ?_; (repeat (go_big_quiet_step (first | (go_at_call 51; exact (iturn_any _ _ _ _ _ _ _).calm) | (go_at_call 73; exact (square_any _ _ _ _ _).calm)))); refine wpQuiet_nil ?_; rintro w1 ⟨x1, rfl⟩)
    go_wp2_with fail
    go_ret
    refine ⟨by rw [HC.out]; rfl, ?_⟩
    repeat (first | exact Ext.refl _ | refine Ext.alloc ?_ _ | assumption | refine Ext.over ?_ _ | refine Ext.drew ?_ | refine Ext.drewN ?_ _)
  · have HC := hid (show inF x px py = decide (squareW x.a x.b px py ≤ wrap64 (x.g * x.g)) by unfold inF inFR inFL inFS; rw [h1, h2]; rfl)
    (unfold Gives; go_enter Try.func55, Try.ntmps55)
    go_wp2_with fail
    (refine wp_region_calm (by kernel_rfl) (by kernel_rfl) ?_; (repeat (go_big_quiet_step (first | (go_at_call 51; exact (iturn_any _ _ _ _ _ _ _).calm) | (go_at_call 73; exact (square_any _ _ _ _ _).calm)))); refine wpQuiet_nil ?_; rintro w1 ⟨x1, rfl⟩)
    go_wp2_with fail
    go_ret
    refine ⟨by rw [HC.out]; rfl, ?_⟩
    repeat (first | exact Ext.refl _ | refine Ext.alloc ?_ _ | assumption | refine Ext.over ?_ _ | refine Ext.drew ?_ | refine Ext.drewN ?_ _)
theorem iInField_any (x : T7) (px py : Int) (w : World) : Gives Try.prog 18 #[camV x, .agg #[.int .i64 px, .int .i64 py]] w (.bool (inFld x px py)) := by
  cases h1 : camOk x
  · have HC := hid (show inFld x px py = false by unfold inFld; rw [h1]; rfl)
    unfold camV
    (unfold Gives; go_enter Try.func18, Try.ntmps18)
    go_wp2_with (go_at_call 15; refine (iCameraOk_any x _).over.mono ?_; rintro e w' ⟨rfl, xw, rfl⟩)
    go_ret
    refine ⟨by rw [HC.out]; rfl, ?_⟩
    repeat (first | exact Ext.refl _ | refine Ext.alloc ?_ _ | assumption | refine Ext.over ?_ _ | refine Ext.drew ?_ | refine Ext.drewN ?_ _)
  cases h2 : pok px py
  · have HC := hid (show inFld x px py = false by unfold inFld; rw [h2]; simp)
    unfold camV
    (unfold Gives; go_enter Try.func18, Try.ntmps18)
    go_wp2_with (first | (go_at_call 15; refine (iCameraOk_any x _).over.mono ?_; rintro e w' ⟨rfl, xw, rfl⟩) | (go_at_call 54; refine (iPointOk_any _ _ _).over.mono ?_; rintro e w' ⟨rfl, xw, rfl⟩))
    go_ret
    refine ⟨by rw [HC.out]; rfl, ?_⟩
    repeat (first | exact Ext.refl _ | refine Ext.alloc ?_ _ | assumption | refine Ext.over ?_ _ | refine Ext.drew ?_ | refine Ext.drewN ?_ _)
  · have HC := hid (show inFld x px py = inF x px py by unfold inFld; rw [h1, h2]; rfl)
    unfold camV
    (unfold Gives; go_enter Try.func18, Try.ntmps18)
    go_wp2_with (first | (go_at_call 15; refine (iCameraOk_any x _).over.mono ?_; rintro e w' ⟨rfl, xw, rfl⟩) | (go_at_call 54; refine (iPointOk_any _ _ _).over.mono ?_; rintro e w' ⟨rfl, xw, rfl⟩) | (go_at_call 55; refine (inField_any x _ _ _).over.mono ?_; rintro e w' ⟨rfl, xw, rfl⟩))
    go_ret
    refine ⟨by rw [HC.out]; rfl, ?_⟩
    repeat (first | exact Ext.refl _ | refine Ext.alloc ?_ _ | assumption | refine Ext.over ?_ _ | refine Ext.drew ?_ | refine Ext.drewN ?_ _)
theorem camOk_at {x : T7} (h : camOk x = true) : pok x.a x.b = true := by unfold camOk at h; simp only [Bool.and_eq_true] at h; exact h.1.1.1
theorem sInField_any (x : T7) (px py : Int) (w : World) : Gives Try.prog 16 #[camV x, .agg #[.int .i64 px, .int .i64 py]] w (.bool (inFld x px py)) := by
  cases h1 : camOk x
  · have HC := hid (show inFld x px py = false by unfold inFld; rw [h1]; rfl)
    unfold camV
    (unfold Gives; go_enter Try.func16, Try.ntmps16)
    go_wp2_with fail
    (refine wp_region_calm (by kernel_rfl) (by kernel_rfl) ?_; (repeat (go_big_quiet_step (first | (go_at_call 13; exact (gives_b h1 (sCameraOk_any x _)).calm) | fail))); refine wpQuiet_nil ?_; rintro w1 ⟨x1, rfl⟩)
    go_wp2_with fail
    go_ret
    refine ⟨by rw [HC.out]; rfl, ?_⟩
    repeat (first | exact Ext.refl _ | refine Ext.alloc ?_ _ | assumption | refine Ext.over ?_ _ | refine Ext.drew ?_ | refine Ext.drewN ?_ _)
  cases h2 : pok px py
  · have HC := hid (show inFld x px py = false by unfold inFld; rw [h2]; simp)
    unfold camV
    (unfold Gives; go_enter Try.func16, Try.ntmps16)
    go_wp2_with fail
    (refine wp_region_calm (by kernel_rfl) (by kernel_rfl) ?_; (repeat (go_big_quiet_step (first | (go_at_call 13; exact (gives_b h1 (sCameraOk_any x _)).calm) | (go_at_call 47; exact (gives_b h2 (sPointOk_any _ _ _)).calm)))); refine wpQuiet_nil ?_; rintro w1 ⟨x1, rfl⟩)
    go_wp2_with fail
    go_ret
    refine ⟨by rw [HC.out]; rfl, ?_⟩
    repeat (first | exact Ext.refl _ | refine Ext.alloc ?_ _ | assumption | refine Ext.over ?_ _ | refine Ext.drew ?_ | refine Ext.drewN ?_ _)
  have HAT := hid (camOk_at h1)
  have HP := hid h2
  have HSQ := hid (squareW_sym HAT.out h2)
  cases h3 : decide (0 ≤ turnW x.a x.b x.c x.d px py)
  · have HC := hid (show inFld x px py = false by unfold inFld inF inFR; rw [h3]; simp)
    unfold camV
    (unfold Gives; go_enter Try.func16, Try.ntmps16)
    go_wp2_with fail
    (refine wp_region_calm (by kernel_rfl) (by kernel_rfl) ?_; (repeat (go_big_quiet_step (first | (go_at_call 13; exact (gives_b h1 (sCameraOk_any x _)).calm) | (go_at_call 47; exact (gives_b h2 (sPointOk_any _ _ _)).calm) | (go_at_call 48; exact (sturn_any _ _ _ _ _ _ _).calm)))); refine wpQuiet_nil ?_; rintro w1 ⟨x1, rfl⟩)
    go_wp2_with fail
    go_ret
    refine ⟨by rw [HC.out]; rfl, ?_⟩
    repeat (first | exact Ext.refl _ | refine Ext.alloc ?_ _ | assumption | refine Ext.over ?_ _ | refine Ext.drew ?_ | refine Ext.drewN ?_ _)
  cases h4 : decide (0 ≤ turnW x.a x.b px py x.e x.f)
  · have HC := hid (show inFld x px py = false by unfold inFld inF inFL; rw [h4]; simp)
    unfold camV
    (unfold Gives; go_enter Try.func16, Try.ntmps16)
    go_wp2_with fail
    (refine wp_region_calm (by kernel_rfl) (by kernel_rfl) ?_; (repeat (go_big_quiet_step (first | (go_at_call 13; exact (gives_b h1 (sCameraOk_any x _)).calm) | (go_at_call 47; exact (gives_b h2 (sPointOk_any _ _ _)).calm) | (go_at_call 48; exact (sturn_any _ _ _ _ _ _ _).calm)))); refine wpQuiet_nil ?_; rintro w1 ⟨x1, rfl⟩)
    go_wp2_with fail
    go_ret
    refine ⟨by rw [HC.out]; rfl, ?_⟩
    repeat (first | exact Ext.refl _ | refine Ext.alloc ?_ _ | assumption | refine Ext.over ?_ _ | refine Ext.drew ?_ | refine Ext.drewN ?_ _)
  · have HC := hid (show inFld x px py = decide (squareW px py x.a x.b ≤ wrap64 (x.g * x.g)) by rw [HSQ.out]; unfold inFld inF inFR inFL inFS; rw [h1, h2, h3, h4]; rfl)
    unfold camV
    (unfold Gives; go_enter Try.func16, Try.ntmps16)
    go_wp2_with fail
    (refine wp_region_calm (by kernel_rfl) (by kernel_rfl) ?_; (repeat (go_big_quiet_step (first | (go_at_call 13; exact (gives_b h1 (sCameraOk_any x _)).calm) | (go_at_call 47; exact (gives_b h2 (sPointOk_any _ _ _)).calm) | (go_at_call 48; exact (sturn_any _ _ _ _ _ _ _).calm) | (go_at_call 53; exact (SquareOf_ok _ _ _ _ _ HAT.out HP.out).calm)))); refine wpQuiet_nil ?_; rintro w1 ⟨x1, rfl⟩)
    go_wp2_with fail
    go_ret
    refine ⟨by rw [HC.out]; rfl, ?_⟩
    repeat (first | exact Ext.refl _ | refine Ext.alloc ?_ _ | assumption | refine Ext.over ?_ _ | refine Ext.drew ?_ | refine Ext.drewN ?_ _)

def qx (x : T7) (px py : Int) : Int := wrap64 (x.a - wrap64 (py - x.b))
def qy (x : T7) (px py : Int) : Int := wrap64 (wrap64 (x.b + px) - x.a)
def turned (x : T7) : T7 := ⟨x.a, x.b, qx x x.c x.d, qy x x.c x.d, qx x x.e x.f, qy x x.e x.f, x.g⟩
def turnOk (x : T7) : Bool := camOk x && camOk (turned x)
def turnCam (x : T7) : T7 := if turnOk x then turned x else x
theorem quarter_any (x : T7) (a1 : Nat) (px py : Int) (w : World) (h0 : w.cell? ⟨a1, 0, none⟩ = some (.int .i64 x.a)) (h1 : w.cell? ⟨a1, 1, none⟩ = some (.int .i64 x.b)) :
    Gives Try.prog 57 #[.agg #[.int .i64 px, .int .i64 py], .pointer (some ⟨a1, 0, none⟩)] w (.agg #[.int .i64 (qx x px py), .int .i64 (qy x px py)]) := by
  (unfold Gives; go_enter Try.func57, Try.ntmps57)
  go_wp2_with fail
  refine bodyPost_ret (v := .agg #[.int .i64 (qx x px py), .int .i64 (qy x px py)]) (by simp [results, Try.results57, go_sem, qx, qy]) rfl ⟨rfl, ?_⟩
  repeat (first | exact Ext.refl _ | refine Ext.alloc ?_ _ | assumption | refine Ext.over ?_ _ | refine Ext.drew ?_ | refine Ext.drewN ?_ _)
theorem l25Turned_any (x : T7) (px py : Int) (w : World) :
    Gives Try.prog 56 #[.agg #[.int .i64 x.a, .int .i64 x.b], .agg #[.int .i64 px, .int .i64 py]] w (.agg #[.int .i64 (qx x px py), .int .i64 (qy x px py)]) := by
  (unfold Gives; go_enter Try.func56, Try.ntmps56)
  go_wp2_with fail
  refine bodyPost_ret (v := .agg #[.int .i64 (qx x px py), .int .i64 (qy x px py)]) (by simp [results, Try.results56, go_sem, qx, qy]) rfl ⟨rfl, ?_⟩
  repeat (first | exact Ext.refl _ | refine Ext.alloc ?_ _ | assumption | refine Ext.over ?_ _ | refine Ext.drew ?_ | refine Ext.drewN ?_ _)
theorem fresh_cells {w1 w2 : World} {cs : Array Value} {t : TypeId} (e : Ext (w1.alloc (.cells cs t)) w2) {j : Nat} {u : Value} (h : cs[j]? = some u) : w2.cell? ⟨w1.heap.size, j, none⟩ = some u ∧ w2.frozen? ⟨w1.heap.size, j, none⟩ = false := by
  refine ⟨(Below.cell e (by simp)).trans ?_, (Below.frozen e (by simp)).trans ?_⟩
  · rw [World.cell?_alloc_new]; exact h
  · exact World.frozen?_alloc_at _ _ _ _ rfl
theorem old_cell {w1 w2 : World} (e : Ext w1 w2) {a : Addr} {u : Value} (h : w1.cell? a = some u) : w2.cell? a = some u := (Below.cell e (World.block_lt_of_cell? w1 a h)).trans h
theorem old_froz {w1 w2 : World} (e : Ext w1 w2) {a : Addr} {u : Value} (h : w1.cell? a = some u) (hf : w1.frozen? a = false) : w2.frozen? a = false := (Below.frozen e (World.block_lt_of_cell? w1 a h)).trans hf
/-- Seven cells of one block. -/
def Seven (w : World) (b : Nat) (x : T7) : Prop := w.cell? ⟨b, 0, none⟩ = some (.int .i64 x.a) ∧ w.cell? ⟨b, 1, none⟩ = some (.int .i64 x.b) ∧ w.cell? ⟨b, 2, none⟩ = some (.int .i64 x.c) ∧ w.cell? ⟨b, 3, none⟩ = some (.int .i64 x.d) ∧ w.cell? ⟨b, 4, none⟩ = some (.int .i64 x.e) ∧ w.cell? ⟨b, 5, none⟩ = some (.int .i64 x.f) ∧ w.cell? ⟨b, 6, none⟩ = some (.int .i64 x.g) ∧
  w.frozen? ⟨b, 0, none⟩ = false ∧ w.frozen? ⟨b, 1, none⟩ = false ∧ w.frozen? ⟨b, 2, none⟩ = false ∧ w.frozen? ⟨b, 3, none⟩ = false ∧ w.frozen? ⟨b, 4, none⟩ = false ∧ w.frozen? ⟨b, 5, none⟩ = false ∧ w.frozen? ⟨b, 6, none⟩ = false
theorem Seven.ext {w w' : World} {b : Nat} {x : T7} (h : Seven w b x) (e : Ext w w') : Seven w' b x := by
  obtain ⟨h0, h1, h2, h3, h4, h5, h6, f0, f1, f2, f3, f4, f5, f6⟩ := h
  exact ⟨old_cell e h0, old_cell e h1, old_cell e h2, old_cell e h3, old_cell e h4, old_cell e h5, old_cell e h6, old_froz e h0 f0, old_froz e h1 f1, old_froz e h2 f2, old_froz e h3 f3, old_froz e h4 f4, old_froz e h5 f5, old_froz e h6 f6⟩
theorem Seven.fresh {w1 w2 : World} {x : T7} {t : TypeId} (e : Ext (w1.alloc (.cells #[.int .i64 x.a, .int .i64 x.b, .int .i64 x.c, .int .i64 x.d, .int .i64 x.e, .int .i64 x.f, .int .i64 x.g] t)) w2) : Seven w2 w1.heap.size x :=
  ⟨(fresh_cells e rfl).1, (fresh_cells e rfl).1, (fresh_cells e rfl).1, (fresh_cells e rfl).1, (fresh_cells e rfl).1, (fresh_cells e rfl).1, (fresh_cells e rfl).1,
   (fresh_cells e (j := 0) rfl).2, (fresh_cells e (j := 1) rfl).2, (fresh_cells e (j := 2) rfl).2, (fresh_cells e (j := 3) rfl).2, (fresh_cells e (j := 4) rfl).2, (fresh_cells e (j := 5) rfl).2, (fresh_cells e (j := 6) rfl).2⟩
theorem name_world {P : World → Prop} {X : World} (F : World → Prop) (hF : F X) (h : ∀ W, F W → P W) : P X := h X hF
def zero7 : T7 := ⟨0, 0, 0, 0, 0, 0, 0⟩
set_option maxRecDepth 100000 in
theorem iTurnCamera_any (x : T7) (w : World) : Gives Try.prog 20 #[camV x] w (.tuple #[camV (turnCam x), .bool (turnOk x)]) := by
  cases h1 : camOk x
  · have HC := hid (show turnOk x = false by unfold turnOk; rw [h1]; rfl)
    have HT := hid (show turnCam x = x by unfold turnCam; rw [HC.out]; rfl)
    rw [HC.out, HT.out]
    show Gives _ _ _ w (.tuple #[.agg #[.int .i64 x.a, .int .i64 x.b, .int .i64 x.c, .int .i64 x.d, .int .i64 x.e, .int .i64 x.f, .int .i64 x.g], .bool false])
    unfold camV
    (unfold Gives; go_enter Try.func20, Try.ntmps20)
    go_wp2_with fail
    refine (iCameraOk_any x _).mono ?_
    rintro _ W ⟨rfl, e⟩
    have S1 : Seven W w.heap.size x := (Seven.fresh (w1 := w) (Ext.refl _)).ext ((Ext.alloc (Ext.refl _) _).trans e)
    have S2 : Seven W (w.heap.size + 1) zero7 := by
      have := Seven.fresh (x := zero7) e
      simpa using this
    have HE := hid (show Ext w W from ((Ext.refl w).alloc _).trans (((Ext.refl _).alloc _).trans e))
    obtain ⟨k0, k1, k2, k3, k4, k5, k6, _⟩ := S1
    obtain ⟨z0, z1, z2, z3, z4, z5, z6, y0, y1, y2, y3, y4, y5, y6⟩ := S2
    clear e
    go_wp2_with fail
    refine bodyPost_ret (v := .tuple #[.agg #[.int .i64 x.a, .int .i64 x.b, .int .i64 x.c, .int .i64 x.d, .int .i64 x.e, .int .i64 x.f, .int .i64 x.g], .bool false]) (by simp [results, Try.results20, go_sem, z0, z1, z2, z3, z4, z5, z6]) rfl ⟨rfl, ?_⟩
    repeat (refine Ext.setCell ?_ (by simp) _)
    exact HE.out
  · unfold camV
    (unfold Gives; go_enter Try.func20, Try.ntmps20)
    go_wp2_with fail
    refine (iCameraOk_any x _).mono ?_
    rintro _ W ⟨rfl, e⟩
    have S1 : Seven W w.heap.size x := (Seven.fresh (w1 := w) (Ext.refl _)).ext ((Ext.alloc (Ext.refl _) _).trans e)
    have S2 : Seven W (w.heap.size + 1) zero7 := by
      have := Seven.fresh (x := zero7) e
      simpa using this
    have E : Ext w W := ((Ext.refl w).alloc _).trans (((Ext.refl _).alloc _).trans e)
    have HS1 := hid S1
    have HS2 := hid S2
    have HE := hid E
    obtain ⟨k0, k1, k2, k3, k4, k5, k6, _⟩ := S1
    clear e S2 E
    go_wp2_with fail
    refine wp_region_her2 [true,true,true,true,true,true,true,true,true,true,true,true,true,false,false] (by kernel_rfl) (by kernel_rfl) ?_
    simp only [selB, notB, List.map_cons, List.map_nil, Bool.not_true, Bool.not_false]
    repeat (refine wpH_step (fun K hK => ?_); go_simp; first | (refine hK _ ?_; clear hK K) | (apply Exists.intro; refine ⟨fun _ => ?_, hK _ ?_⟩; (go_at_call 57; exact (quarter_any x _ _ _ _ (by go_simp) (by go_simp)).over); clear hK K))
    refine wpH_nil ?_
    clear k0 k1 k2 k3 k4 k5 k6
    refine wpT2_step (fun w1 hw1 K hK => ?_)
    have E1 := hid (later_ext hw1)
    clear hw1
    go_simp
    refine hK _ _ (Ext.ex (Ext.alloc (Ext.refl _) _)) ?_; clear hK K
    refine wpT2_last (fun w2 hw2 => ?_)
    have e2 := later_ext hw2
    have E2 := hid (show Ext W w2 from E1.out.trans (Ext.trans ((Ext.refl _).alloc _) e2))
    have HZ := hid (Seven.fresh (x := zero7) e2)
    obtain ⟨z0, z1, z2, z3, z4, z5, z6, y0, y1, y2, y3, y4, y5, y6⟩ := HZ.out
    have HLE := hid (show W.heap.size ≤ w1.heap.size from E1.out.size)
    clear hw2 e2
    go_simp
    refine name_world (fun W3 => Seven W3 w1.heap.size (turned x) ∧ Ext W W3) ⟨?_, ?_⟩ (fun W3 hW3 => ?_)
    · refine ⟨?_, ?_, ?_, ?_, ?_, ?_, ?_, ?_, ?_, ?_, ?_, ?_, ?_, ?_⟩
      all_goals first | (go_simp; done) | (go_simp; rfl)
    · repeat (refine Ext.setCell ?_ HLE.out _)
      exact E2.out
    clear z0 z1 z2 z3 z4 z5 z6 y0 y1 y2 y3 y4 y5 y6 HZ E1 E2
    obtain ⟨t0, t1, t2, t3, t4, t5, t6, _⟩ := hW3.1
    have HW := hid hW3
    clear hW3
    go_wp2_with fail
    refine (iCameraOk_any (turned x) _).mono ?_
    rintro _ W4 ⟨rfl, e4⟩
    have HE4 := hid (HE.out.trans (HW.out.2.trans e4))
    obtain ⟨p0, p1, p2, p3, p4, p5, p6, _⟩ := HW.out.1.ext e4
    obtain ⟨k0, k1, k2, k3, k4, k5, k6, _⟩ := HS1.out.ext (HW.out.2.trans e4)
    obtain ⟨z0, z1, z2, z3, z4, z5, z6, y0, y1, y2, y3, y4, y5, y6⟩ := HS2.out.ext (HW.out.2.trans e4)
    clear t0 t1 t2 t3 t4 t5 t6 e4
    cases h2 : camOk (turned x)
    · have HC := hid (show turnOk x = false by unfold turnOk; rw [h1, h2]; rfl)
      have HT := hid (show turnCam x = x by unfold turnCam; rw [HC.out]; rfl)
      go_wp2_with fail
      refine bodyPost_ret (v := .tuple #[.agg #[.int .i64 x.a, .int .i64 x.b, .int .i64 x.c, .int .i64 x.d, .int .i64 x.e, .int .i64 x.f, .int .i64 x.g], .bool false]) (by simp [results, Try.results20, go_sem, z0, z1, z2, z3, z4, z5, z6]) rfl ⟨by rw [HC.out, HT.out], ?_⟩
      repeat (refine Ext.setCell ?_ (by simp) _)
      exact HE4.out
    · have HC := hid (show turnOk x = true by unfold turnOk; rw [h1, h2]; rfl)
      have HT := hid (show turnCam x = turned x by unfold turnCam; rw [HC.out]; rfl)
      go_wp2_with fail
      refine bodyPost_ret (v := .tuple #[.agg #[.int .i64 (turned x).a, .int .i64 (turned x).b, .int .i64 (turned x).c, .int .i64 (turned x).d, .int .i64 (turned x).e, .int .i64 (turned x).f, .int .i64 (turned x).g], .bool true]) (by simp [results, Try.results20, go_sem, z0, z1, z2, z3, z4, z5, z6]) rfl ⟨by rw [HC.out, HT.out], ?_⟩
      repeat (refine Ext.setCell ?_ (by simp) _)
      exact HE4.out
set_option maxRecDepth 100000 in
theorem sTurnCamera_any (x : T7) (w : World) : Gives Try.prog 19 #[camV x] w (.tuple #[camV (turnCam x), .bool (turnOk x)]) := by
  cases h1 : camOk x
  · have HC := hid (show turnOk x = false by unfold turnOk; rw [h1]; rfl)
    have HT := hid (show turnCam x = x by unfold turnCam; rw [HC.out]; rfl)
    rw [HC.out, HT.out]
    show Gives _ _ _ w (.tuple #[.agg #[.int .i64 x.a, .int .i64 x.b, .int .i64 x.c, .int .i64 x.d, .int .i64 x.e, .int .i64 x.f, .int .i64 x.g], .bool false])
    unfold camV
    (unfold Gives; go_enter Try.func19, Try.ntmps19)
    go_wp2_with fail
    refine (sCameraOk_any x _).mono ?_
    rintro _ W ⟨rfl, e⟩
    have S1 : Seven W w.heap.size x := (Seven.fresh (w1 := w) (Ext.refl _)).ext ((Ext.alloc (Ext.refl _) _).trans e)
    have S2 : Seven W (w.heap.size + 1) zero7 := by
      have := Seven.fresh (x := zero7) e
      simpa using this
    have HE := hid (show Ext w W from ((Ext.refl w).alloc _).trans (((Ext.refl _).alloc _).trans e))
    obtain ⟨k0, k1, k2, k3, k4, k5, k6, _⟩ := S1
    obtain ⟨z0, z1, z2, z3, z4, z5, z6, y0, y1, y2, y3, y4, y5, y6⟩ := S2
    clear e
    go_wp2_with fail
    refine bodyPost_ret (v := .tuple #[.agg #[.int .i64 x.a, .int .i64 x.b, .int .i64 x.c, .int .i64 x.d, .int .i64 x.e, .int .i64 x.f, .int .i64 x.g], .bool false]) (by simp [results, Try.results19, go_sem, z0, z1, z2, z3, z4, z5, z6]) rfl ⟨rfl, ?_⟩
    repeat (refine Ext.setCell ?_ (by simp) _)
    exact HE.out
  · unfold camV
    (unfold Gives; go_enter Try.func19, Try.ntmps19)
    go_wp2_with fail
    refine (sCameraOk_any x _).mono ?_
    rintro _ W ⟨rfl, e⟩
    have S1 : Seven W w.heap.size x := (Seven.fresh (w1 := w) (Ext.refl _)).ext ((Ext.alloc (Ext.refl _) _).trans e)
    have S2 : Seven W (w.heap.size + 1) zero7 := by
      have := Seven.fresh (x := zero7) e
      simpa using this
    have E : Ext w W := ((Ext.refl w).alloc _).trans (((Ext.refl _).alloc _).trans e)
    have HS1 := hid S1
    have HS2 := hid S2
    have HE := hid E
    obtain ⟨k0, k1, k2, k3, k4, k5, k6, _⟩ := S1
    clear e S2 E
    go_wp2_with fail
    refine wp_region_her2 [true,true,true,true,true,true,true,true,true,true,true,true,true,true,true,false,false] (by kernel_rfl) (by kernel_rfl) ?_
    simp only [selB, notB, List.map_cons, List.map_nil, Bool.not_true, Bool.not_false]
    repeat (refine wpH_step (fun K hK => ?_); go_simp; first | (refine hK _ ?_; clear hK K) | (apply Exists.intro; refine ⟨fun _ => ?_, hK _ ?_⟩; (go_at_call 56; exact (l25Turned_any x _ _ _).over); clear hK K))
    refine wpH_nil ?_
    clear k0 k1 k2 k3 k4 k5 k6
    refine wpT2_step (fun w1 hw1 K hK => ?_)
    have E1 := hid (later_ext hw1)
    clear hw1
    go_simp
    refine hK _ _ (Ext.ex (Ext.alloc (Ext.refl _) _)) ?_; clear hK K
    refine wpT2_last (fun w2 hw2 => ?_)
    have e2 := later_ext hw2
    have E2 := hid (show Ext W w2 from E1.out.trans (Ext.trans ((Ext.refl _).alloc _) e2))
    have HZ := hid (Seven.fresh (x := zero7) e2)
    obtain ⟨z0, z1, z2, z3, z4, z5, z6, y0, y1, y2, y3, y4, y5, y6⟩ := HZ.out
    have HLE := hid (show W.heap.size ≤ w1.heap.size from E1.out.size)
    clear hw2 e2
    go_simp
    refine name_world (fun W3 => Seven W3 w1.heap.size (turned x) ∧ Ext W W3) ⟨?_, ?_⟩ (fun W3 hW3 => ?_)
    · refine ⟨?_, ?_, ?_, ?_, ?_, ?_, ?_, ?_, ?_, ?_, ?_, ?_, ?_, ?_⟩
      all_goals first | (go_simp; done) | (go_simp; rfl)
    · repeat (refine Ext.setCell ?_ HLE.out _)
      exact E2.out
    clear z0 z1 z2 z3 z4 z5 z6 y0 y1 y2 y3 y4 y5 y6 HZ E1 E2
    obtain ⟨t0, t1, t2, t3, t4, t5, t6, _⟩ := hW3.1
    have HW := hid hW3
    clear hW3
    go_wp2_with fail
    refine (sCameraOk_any (turned x) _).mono ?_
    rintro _ W4 ⟨rfl, e4⟩
    have HE4 := hid (HE.out.trans (HW.out.2.trans e4))
    obtain ⟨p0, p1, p2, p3, p4, p5, p6, _⟩ := HW.out.1.ext e4
    obtain ⟨k0, k1, k2, k3, k4, k5, k6, _⟩ := HS1.out.ext (HW.out.2.trans e4)
    obtain ⟨z0, z1, z2, z3, z4, z5, z6, y0, y1, y2, y3, y4, y5, y6⟩ := HS2.out.ext (HW.out.2.trans e4)
    clear t0 t1 t2 t3 t4 t5 t6 e4
    cases h2 : camOk (turned x)
    · have HC := hid (show turnOk x = false by unfold turnOk; rw [h1, h2]; rfl)
      have HT := hid (show turnCam x = x by unfold turnCam; rw [HC.out]; rfl)
      go_wp2_with fail
      refine bodyPost_ret (v := .tuple #[.agg #[.int .i64 x.a, .int .i64 x.b, .int .i64 x.c, .int .i64 x.d, .int .i64 x.e, .int .i64 x.f, .int .i64 x.g], .bool false]) (by simp [results, Try.results19, go_sem, z0, z1, z2, z3, z4, z5, z6]) rfl ⟨by rw [HC.out, HT.out], ?_⟩
      repeat (refine Ext.setCell ?_ (by simp) _)
      exact HE4.out
    · have HC := hid (show turnOk x = true by unfold turnOk; rw [h1, h2]; rfl)
      have HT := hid (show turnCam x = turned x by unfold turnCam; rw [HC.out]; rfl)
      go_wp2_with fail
      refine bodyPost_ret (v := .tuple #[.agg #[.int .i64 (turned x).a, .int .i64 (turned x).b, .int .i64 (turned x).c, .int .i64 (turned x).d, .int .i64 (turned x).e, .int .i64 (turned x).f, .int .i64 (turned x).g], .bool true]) (by simp [results, Try.results19, go_sem, z0, z1, z2, z3, z4, z5, z6]) rfl ⟨by rw [HC.out, HT.out], ?_⟩
      repeat (refine Ext.setCell ?_ (by simp) _)
      exact HE4.out
end Go.Proofs.Ytneicnbbohiapaa
