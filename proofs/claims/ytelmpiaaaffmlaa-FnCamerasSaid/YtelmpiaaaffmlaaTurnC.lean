/- Walks: turned cameras. No condition. -/
import Derived.Test.YtelmpiaaaffmlaaCam
namespace Go.Proofs.Ytelmpiaaaffmlaa
open Go.RowKit
set_option linter.unusedVariables false

def qx (x : T7) (px py : Int) : Int := wrap64 (x.a - wrap64 (py - x.b))
def qy (x : T7) (px py : Int) : Int := wrap64 (wrap64 (x.b + px) - x.a)
def turned (x : T7) : T7 := ⟨x.a, x.b, qx x x.c x.d, qy x x.c x.d, qx x x.e x.f, qy x x.e x.f, x.g⟩
def turnOk (x : T7) : Bool := camOk x && camOk (turned x)
def turnCam (x : T7) : T7 := if turnOk x then turned x else x
theorem quarter_any (x : T7) (a1 : Nat) (px py : Int) (w : World) (h0 : w.cell? ⟨a1, 0, none⟩ = some (.int .i64 x.a)) (h1 : w.cell? ⟨a1, 1, none⟩ = some (.int .i64 x.b)) :
    Gives Try.prog 27 #[.agg #[.int .i64 px, .int .i64 py], .pointer (some ⟨a1, 0, none⟩)] w (.agg #[.int .i64 (qx x px py), .int .i64 (qy x px py)]) := by
  (unfold Gives; go_enter Try.func27, Try.ntmps27)
  go_wp2_with fail
  refine bodyPost_ret (v := .agg #[.int .i64 (qx x px py), .int .i64 (qy x px py)]) (by simp [results, Try.results27, go_sem, qx, qy]) rfl ⟨rfl, ?_⟩
  repeat (first | exact Ext.refl _ | refine Ext.alloc ?_ _ | assumption | refine Ext.over ?_ _ | refine Ext.drew ?_ | refine Ext.drewN ?_ _)
set_option maxRecDepth 100000 in
theorem iTurnCamera_any (x : T7) (w : World) : Gives Try.prog 7 #[camV x] w (.tuple #[camV (turnCam x), .bool (turnOk x)]) := by
  cases h1 : camOk x
  · have HC := hid (show turnOk x = false by unfold turnOk; rw [h1]; rfl)
    have HT := hid (show turnCam x = x by unfold turnCam; rw [HC.out]; rfl)
    rw [HC.out, HT.out]
    show Gives _ _ _ w (.tuple #[.agg #[.int .i64 x.a, .int .i64 x.b, .int .i64 x.c, .int .i64 x.d, .int .i64 x.e, .int .i64 x.f, .int .i64 x.g], .bool false])
    unfold camV
    (unfold Gives; go_enter Try.func7, Try.ntmps7)
    go_wp2_with fail
    refine (iCameraOk_any x _).mono ?_
    rintro _ W ⟨rfl, e⟩
    have S1 : Seven W w.heap.size x := (Seven.fresh (w1 := w) (Ext.refl _)).ext ((Ext.alloc (Ext.refl _) _).trans e)
    have S2 : Seven W (w.heap.size + 1) zero7 := by
      have := Seven.fresh (x := zero7) e
      simpa using this
    have HE := hid (show Ext w W from ((Ext.refl w).alloc _).trans (((Ext.refl _).alloc _).trans e))
    obtain ⟨k0, k1, k2, k3, k4, k5, k6, _⟩ := S1
    obtain ⟨z0, z1, z2, z3, z4, z5, z6, y0, y1, y2, y3, y4, y5, y6⟩ := S2
    clear e
    go_wp2_with fail
    refine bodyPost_ret (v := .tuple #[.agg #[.int .i64 x.a, .int .i64 x.b, .int .i64 x.c, .int .i64 x.d, .int .i64 x.e, .int .i64 x.f, .int .i64 x.g], .bool false]) (by simp [results, Try.results7, go_sem, z0, z1, z2, z3, z4, z5, z6]) rfl ⟨rfl, ?_⟩
    repeat (refine Ext.setCell ?_ (by simp) _)
    exact HE.out
  · unfold camV
    (unfold Gives; go_enter Try.func7, Try.ntmps7)
    go_wp2_with fail
    refine (iCameraOk_any x _).mono ?_
    rintro _ W ⟨rfl, e⟩
    have S1 : Seven W w.heap.size x := (Seven.fresh (w1 := w) (Ext.refl _)).ext ((Ext.alloc (Ext.refl _) _).trans e)
    have S2 : Seven W (w.heap.size + 1) zero7 := by
      have := Seven.fresh (x := zero7) e
      simpa using this
    have E : Ext w W := ((Ext.refl w).alloc _).trans (((Ext.refl _).alloc _).trans e)
    have HS1 := hid S1
    have HS2 := hid S2
    have HE := hid E
    obtain ⟨k0, k1, k2, k3, k4, k5, k6, _⟩ := S1
    clear e S2 E
    go_wp2_with fail
    refine wp_region_her2 [true,true,true,true,true,true,true,true,true,true,true,true,true,false,false] (by kernel_rfl) (by kernel_rfl) ?_
    simp only [selB, notB, List.map_cons, List.map_nil, Bool.not_true, Bool.not_false]
    repeat (refine wpH_step (fun K hK => ?_); go_simp; first | (refine hK _ ?_; clear hK K) | (apply Exists.intro; refine ⟨fun _ => ?_, hK _ ?_⟩; (go_at_call 27; exact (quarter_any x _ _ _ _ (by go_simp) (by go_simp)).over); clear hK K))
    refine wpH_nil ?_
    clear k0 k1 k2 k3 k4 k5 k6
    refine wpT2_step (fun w1 hw1 K hK => ?_)
    have E1 := hid (later_ext hw1)
    clear hw1
    go_simp
    refine hK _ _ (Ext.ex (Ext.alloc (Ext.refl _) _)) ?_; clear hK K
    refine wpT2_last (fun w2 hw2 => ?_)
    have e2 := later_ext hw2
    have E2 := hid (show Ext W w2 from E1.out.trans (Ext.trans ((Ext.refl _).alloc _) e2))
    have HZ := hid (Seven.fresh (x := zero7) e2)
    obtain ⟨z0, z1, z2, z3, z4, z5, z6, y0, y1, y2, y3, y4, y5, y6⟩ := HZ.out
    have HLE := hid (show W.heap.size ≤ w1.heap.size from E1.out.size)
    clear hw2 e2
    go_simp
    refine name_world (fun W3 => Seven W3 w1.heap.size (turned x) ∧ Ext W W3) ⟨?_, ?_⟩ (fun W3 hW3 => ?_)
    · refine ⟨?_, ?_, ?_, ?_, ?_, ?_, ?_, ?_, ?_, ?_, ?_, ?_, ?_, ?_⟩
      all_goals first | (go_simp; done) | (go_simp; rfl)
    · repeat (refine Ext.setCell ?_ HLE.out _)
      exact E2.out
    clear z0 z1 z2 z3 z4 z5 z6 y0 y1 y2 y3 y4 y5 y6 HZ E1 E2
    obtain ⟨t0, t1, t2, t3, t4, t5, t6, _⟩ := hW3.1
    have HW := hid hW3
    clear hW3
    go_wp2_with fail
    refine (iCameraOk_any (turned x) _).mono ?_
    rintro _ W4 ⟨rfl, e4⟩
    have HE4 := hid (HE.out.trans (HW.out.2.trans e4))
    obtain ⟨p0, p1, p2, p3, p4, p5, p6, _⟩ := HW.out.1.ext e4
    obtain ⟨k0, k1, k2, k3, k4, k5, k6, _⟩ := HS1.out.ext (HW.out.2.trans e4)
    obtain ⟨z0, z1, z2, z3, z4, z5, z6, y0, y1, y2, y3, y4, y5, y6⟩ := HS2.out.ext (HW.out.2.trans e4)
    clear t0 t1 t2 t3 t4 t5 t6 e4
    cases h2 : camOk (turned x)
    · have HC := hid (show turnOk x = false by unfold turnOk; rw [h1, h2]; rfl)
      have HT := hid (show turnCam x = x by unfold turnCam; rw [HC.out]; rfl)
      go_wp2_with fail
      refine bodyPost_ret (v := .tuple #[.agg #[.int .i64 x.a, .int .i64 x.b, .int .i64 x.c, .int .i64 x.d, .int .i64 x.e, .int .i64 x.f, .int .i64 x.g], .bool false]) (by simp [results, Try.results7, go_sem, z0, z1, z2, z3, z4, z5, z6]) rfl ⟨by rw [HC.out, HT.out], ?_⟩
      repeat (refine Ext.setCell ?_ (by simp) _)
      exact HE4.out
    · have HC := hid (show turnOk x = true by unfold turnOk; rw [h1, h2]; rfl)
      have HT := hid (show turnCam x = turned x by unfold turnCam; rw [HC.out]; rfl)
      go_wp2_with fail
      refine bodyPost_ret (v := .tuple #[.agg #[.int .i64 (turned x).a, .int .i64 (turned x).b, .int .i64 (turned x).c, .int .i64 (turned x).d, .int .i64 (turned x).e, .int .i64 (turned x).f, .int .i64 (turned x).g], .bool true]) (by simp [results, Try.results7, go_sem, z0, z1, z2, z3, z4, z5, z6]) rfl ⟨by rw [HC.out, HT.out], ?_⟩
      repeat (refine Ext.setCell ?_ (by simp) _)
      exact HE4.out
end Go.Proofs.Ytelmpiaaaffmlaa
