/- Walks: sightings are drawn. Conditions: sizes. -/
import Derived.Test.YtnjmhdlcmbpfpaaPoint
import Derived.Test.YtnjmhdlcmbpfpaaApart
namespace Go.Proofs.Ytnjmhdlcmbpfpaa
open Go.RowKit
set_option linter.unusedVariables false

theorem info_SightD : (Try.prog.info? 41).map (fun i => (i.zero, i.size, i.bytes)) = some (some (.agg #[.int .i64 0, .int .i64 0, .int .i64 0]), 3, 24) := by kernel_rfl
set_option maxRecDepth 100000 in
set_option maxHeartbeats 1600000 in
theorem l28Sighting_any (g : Nat) (w : World) (hc : Cur w g) : Calls Try.prog 32 #[.pointer (some ⟨g, 0, none⟩)] w fun e w' => ∃ t x y : Int, e = .returned (.agg #[.int .i64 t, .int .i64 x, .int .i64 y]) ∧ (0 ≤ t ∧ t ≤ 7) ∧ (-2 ≤ x ∧ x ≤ 6) ∧ (-2 ≤ y ∧ y ≤ 6) ∧ Drawn w w' g := by
  have hlow := hc.lt
  have HC := hid hc
  clear hc
  go_enter Try.func32, Try.ntmps32
  go_wp2_with fail
  refine (l01Below_any g 8 _ (HC.out.ext (by repeat (first | exact Ext.refl _ | refine Ext.alloc ?_ _ | assumption | refine Ext.over ?_ _ | refine Ext.drew ?_ | refine Ext.drewN ?_ _))) (by omega)).mono ?_
  rintro _ w1 ⟨v, rfl, v0, v1, hd⟩
  have p0 : w1.cell? ⟨w.heap.size, 0, none⟩ = some (.int .i64 0) := (hd.cell (p := ⟨w.heap.size, 0, none⟩) (by simp) (by show w.heap.size ≠ g; omega)).trans (by go_simp)
  have p1 : w1.cell? ⟨w.heap.size, 1, none⟩ = some (.int .i64 0) := (hd.cell (p := ⟨w.heap.size, 1, none⟩) (by simp) (by show w.heap.size ≠ g; omega)).trans (by go_simp)
  have p2 : w1.cell? ⟨w.heap.size, 2, none⟩ = some (.int .i64 0) := (hd.cell (p := ⟨w.heap.size, 2, none⟩) (by simp) (by show w.heap.size ≠ g; omega)).trans (by go_simp)
  have b1 : w1.heap[w.heap.size]? = (w.alloc (.cells #[.int .i64 0, .int .i64 0, .int .i64 0] 41)).heap[w.heap.size]? := hd.1.block _ (by simp) (by intro e; injection e with e; omega)
  have q0 : w1.frozen? ⟨w.heap.size, 0, none⟩ = false := (World.frozen?_of_block (a := ⟨w.heap.size, 0, none⟩) b1).trans (by go_simp)
  have q1 : w1.frozen? ⟨w.heap.size, 1, none⟩ = false := (World.frozen?_of_block (a := ⟨w.heap.size, 1, none⟩) b1).trans (by go_simp)
  have q2 : w1.frozen? ⟨w.heap.size, 2, none⟩ = false := (World.frozen?_of_block (a := ⟨w.heap.size, 2, none⟩) b1).trans (by go_simp)
  have HD1 := hid (Drawn.of_ext (show Ext w _ by repeat (first | exact Ext.refl _ | refine Ext.alloc ?_ _ | assumption | refine Ext.over ?_ _ | refine Ext.drew ?_ | refine Ext.drewN ?_ _)) hd)
  have hs1 := hd.size
  have hsz1 : w.heap.size < w1.heap.size := by simp at hs1; omega
  clear hd b1 hs1
  go_wp2_with fail
  refine (l02Point_any g w1 HD1.out.2).mono ?_
  rintro _ w2 ⟨x, y, rfl, hx, hy, hd⟩
  have b2 : w2.heap[w.heap.size]? = w1.heap[w.heap.size]? := hd.1.block _ hsz1 (by intro e; injection e with e; omega)
  have p0 := (World.cell?_of_block (a := ⟨w.heap.size, 0, none⟩) b2).trans p0
  have p1 := (World.cell?_of_block (a := ⟨w.heap.size, 1, none⟩) b2).trans p1
  have p2 := (World.cell?_of_block (a := ⟨w.heap.size, 2, none⟩) b2).trans p2
  have q0 := (World.frozen?_of_block (a := ⟨w.heap.size, 0, none⟩) b2).trans q0
  have q1 := (World.frozen?_of_block (a := ⟨w.heap.size, 1, none⟩) b2).trans q1
  have q2 := (World.frozen?_of_block (a := ⟨w.heap.size, 2, none⟩) b2).trans q2
  have HD2 := hid (HD1.out.trans hd)
  clear hd b2 HD1
  go_wp2_with fail
  refine bodyPost_ret (v := .agg #[.int .i64 v, .int .i64 x, .int .i64 y]) (by first | (simp [results, Try.results32, go_sem, p0, p1, p2]; done) | (unfold results; rw [Try.results32]; go_simp)) rfl ?_
  exact ⟨v, x, y, rfl, by omega, hx, hy, ((HD2.out.setc (Nat.le_refl _) hlow _).setc (Nat.le_refl _) hlow _).setc (Nat.le_refl _) hlow _⟩
/-- Valid sightings, at most eight. -/
def Sgs (l : List T3) : Prop := l.length ≤ 8 ∧ ∀ x, x ∈ l → sok x.a x.b x.c = true
theorem Sgs.snoc {l : List T3} (h : ∀ x, x ∈ l → sok x.a x.b x.c = true) {t x y : Int} (ht : 0 ≤ t ∧ t ≤ 7) (hx : -2 ≤ x ∧ x ≤ 6) (hy : -2 ≤ y ∧ y ≤ 6) : ∀ z, z ∈ l ++ [(⟨t, x, y⟩ : T3)] → sok z.a z.b z.c = true := fun z hz => by
  rcases List.mem_append.1 hz with hz | hz
  · exact h z hz
  · obtain rfl : z = ⟨t, x, y⟩ := by simpa using hz
    rw [sok_iff]; dsimp only; omega
set_option maxRecDepth 100000 in
set_option maxHeartbeats 1600000 in
theorem l28List_any (g : Nat) (w : World) (hc : Cur w g) : Calls Try.prog 23 #[.pointer (some ⟨g, 0, none⟩)] w fun en w' => ∃ (A : Option Addr) (k c : Nat) (l : List T3), en = .returned (.slice A k c) ∧ l.length = k ∧ Sgs l ∧ w'.ownsRow w.heap.size 41 3 (.slice A k c) k (l.flatMap T3.v) ∧ Drawn w w' g := by
  have hlow := hc.lt
  have HC := hid hc
  clear hc
  go_enter Try.func23, Try.ntmps23
  go_wp2_with fail
  have HO0 := hid (own_empty w w.heap.size w.heap.size rfl (Nat.le_refl _) 41 3)
  refine (l01Below_any g 9 _ (HC.out.ext (by repeat (first | exact Ext.refl _ | refine Ext.alloc ?_ _ | assumption | refine Ext.over ?_ _ | refine Ext.drew ?_ | refine Ext.drewN ?_ _))) (by omega)).mono ?_
  rintro _ w1 ⟨v, rfl, v0, v1, hd⟩
  obtain ⟨n, rfl⟩ : ∃ p : Nat, v = p := ⟨v.toNat, by omega⟩
  have hn8 : n ≤ 8 := by omega
  have HO1 := hid (hd.own HO0.out hlow)
  have HD1 := hid (Drawn.of_ext (show Ext w _ by repeat (first | exact Ext.refl _ | refine Ext.alloc ?_ _ | assumption | refine Ext.over ?_ _ | refine Ext.drew ?_ | refine Ext.drewN ?_ _)) hd)
  clear hd v0 v1 HO0
  go_wp2_with fail
  go_loopw [3, 5] (fun ov kv wr => ∃ (k : Nat) (A : Option Addr) (c : Nat) (l : List T3), k ≤ n ∧ kv = .int .i64 ↑k ∧ ov = .slice A k c ∧ l.length = k ∧ (∀ x, x ∈ l → sok x.a x.b x.c = true) ∧ wr.ownsRow w.heap.size 41 3 (.slice A k c) k (l.flatMap T3.v) ∧ Drawn w wr g) (fun _ kv _ => n - (intOf kv).toNat)
  case atStart => exact ⟨0, _, _, [], by omega, rfl, rfl, rfl, (fun x hx => by cases hx), HO1.out, HD1.out⟩
  case round =>
    clear HO1 HD1
    obtain ⟨k, A, c, l, hk, rfl, rfl, hll, hs, hown, hd⟩ := hrel
    have HS := hid hs
    have HO := hid hown
    have HD := hid hd
    have HLL := hid hll
    clear hs hown hd hll
    by_cases hlt : k < n
    · go_wp2_with fail
      refine (l28Sighting_any g wr HD.out.2).mono ?_
      rintro _ w3 ⟨t, x, y, rfl, ht, hx, hy, hd⟩
      have HD3 := hid (HD.out.trans hd)
      have HO3 := hid (hd.own HO.out hlow)
      have HSZ := hid (show w.heap.size ≤ w3.heap.size from HD3.out.size)
      have hlen := HLL.out
      clear hd
      go_wp2_with (at_builtin; refine wpList_pushG rfl (.tmp 17) (.tmp 19) 33 rfl 41 Try.underlying33 info_SightD rfl (by decide) w.heap.size A k c (l.flatMap T3.v) rfl w3 HO3.out (by repeat (first | exact Ext.refl _ | refine Ext.alloc ?_ _ | assumption | refine Ext.over ?_ _ | refine Ext.drew ?_ | refine Ext.drewN ?_ _)) HSZ.out _ 1 1 [.int .i64 t, .int .i64 x, .int .i64 y] rfl rfl (lit_cells _ _ (by first | (simp; done) | simp [ovr_size]) _ _) (by intro z hz; simp at hz; rcases hz with rfl | rfl | rfl <;> rfl) (by omega) (by decide) ?_)
      intro A2 c3 w11 hown hgr
      have HD4 := hid (HD3.out.grown hgr hlow (fun j hj => (HO3.out.lt j hj).1))
      have HO4 := hid (show w11.ownsRow w.heap.size 41 3 (.slice A2 (k + 1) c3) (k + 1) ((l ++ [(⟨t, x, y⟩ : T3)]).flatMap T3.v) by rw [List.flatMap_append]; exact hown)
      have HS4 := hid (Sgs.snoc HS.out ht hx hy)
      clear hown hgr HO3 HD3
      go_wp2_with fail
      go_roundw
      case rel => exact ⟨k + 1, A2, c3, l ++ [(⟨t, x, y⟩ : T3)], by omega, by go_num, rfl, by rw [List.length_append, hlen]; rfl, HS4.out, HO4.out, HD4.out⟩
      case measure => simp [intOf]; omega
    · obtain rfl : k = n := by omega
      go_wp2_with fail
      go_ret
      exact ⟨A, k, c, l, rfl, HLL.out, ⟨by have := HLL.out; omega, HS.out⟩, HO.out, HD.out⟩
set_option maxRecDepth 100000 in
set_option maxHeartbeats 1600000 in
theorem DrawSightings_any (A : Option Addr) (n c : Nat) (bs : List Int) (w : World) (hl : Row w A (bs.map (Value.int .u8))) (hn : bs.length = n) (hx : n ≤ 1048576) (hz : ∀ z ∈ bs, 0 ≤ z ∧ z ≤ 255) :
    Calls Try.prog 11 #[.slice A n c] w fun en w' => ∃ (A : Option Addr) (k c : Nat) (l : List T3) (s : Int), en = .returned (.tuple #[.slice A k c, .int .i64 s]) ∧ l.length = k ∧ Sgs l ∧ (1 ≤ s ∧ s ≤ 3) ∧ Row w' A (l.flatMap T3.v) ∧ Ext w w' := by
  have HZ := hid hz
  clear hz
  go_enter Try.func11, Try.ntmps11
  go_wp2_with fail
  refine (l01New_any A n c bs _ (hl.ext (by repeat (first | exact Ext.refl _ | refine Ext.alloc ?_ _ | assumption | refine Ext.over ?_ _ | refine Ext.drew ?_ | refine Ext.drewN ?_ _))) hn hx HZ.out).mono ?_
  rintro _ w1 ⟨g, rfl, hg, hc, he⟩
  have HC := hid hc
  have HE := hid he
  clear hc he
  go_wp2_with fail
  refine (l28List_any g w1 HC.out).mono ?_
  rintro _ w2 ⟨A2, k, c2, l, rfl, hll, hf, ho, hd⟩
  have HF := hid hf
  have HR := hid ho
  have HD := hid hd
  have hlow := HC.out.lt
  clear hf ho hd
  go_wp2_with fail
  refine (l01Below_any g 3 w2 HD.out.2 (by omega)).mono ?_
  rintro _ w3 ⟨v, rfl, v0, v1, hd⟩
  have HE3 := hid ((HD.out.trans hd).out HE.out hg)
  have HR3 := hid (Row.of_own (hd.own HR.out hlow))
  clear hd
  go_wp2_with fail
  go_ret2
  exact ⟨A2, k, c2, l, 1 + v, rfl, hll, HF.out, by omega, HR3.out, HE3.out⟩
end Go.Proofs.Ytnjmhdlcmbpfpaa
