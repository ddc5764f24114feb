/- Texts merged: lemmas and walks under FnCoverage. No condition. -/
import Derived.Test.YtelmpiaaaffmlaaDraw2
import Derived.Test.YtelmpiaaaffmlaaRowM
import Derived.Test.YtelmpiaaaffmlaaSpin
import Derived.Test.YtelmpiaaaffmlaaHer5
import Derived.Test.YtelmpiaaaffmlaaHer4
import Derived.Test.YtelmpiaaaffmlaaRoomS
import Derived.Test.YtelmpiaaaffmlaaFloorS
import Derived.Test.YtelmpiaaaffmlaaFloorP
import Derived.Test.YtelmpiaaaffmlaaCam
import Derived.Test.YtelmpiaaaffmlaaFilm
/- Walks: rooms are drawn: numbers, shapes, copies. Conditions: sizes. -/
namespace Go.Proofs.Ytelmpiaaaffmlaa
open Go.RowKit
set_option linter.unusedVariables false

set_option maxRecDepth 100000 in
set_option maxHeartbeats 1600000 in
theorem l01BelowB_any (g : Nat) (n : Int) (w : World) (hc : Cur w g) (h1 : 1 ≤ n) (hn : n ≤ 100000) : Calls Try.prog 43 #[.pointer (some ⟨g, 0, none⟩), .int .i64 n] w (DrawsIn w g 0 (n - 1)) := by
  by_cases h256 : n ≤ 256
  · refine (l01Below_any g n w hc h256).mono ?_
    rintro _ w1 ⟨v, rfl, v0, v1, hd⟩
    exact ⟨v, rfl, v0, by omega, hd⟩
  have h0 : ¬ n ≤ 0 := by omega
  go_enter Try.func43, Try.ntmps43
  go_wp2_with fail
  refine (l01Byte_any g w hc).mono ?_
  rintro _ w1 ⟨x, rfl, x0, x1, hd⟩
  have HD := hid hd
  clear hd
  go_wp2_with fail
  refine (l01Byte_any g w1 HD.out.2).mono ?_
  rintro _ w2 ⟨y, rfl, y0, y1, hd⟩
  have HD := hid (HD.out.trans hd)
  clear hd
  go_wp2_with fail
  refine (l01Byte_any g w2 HD.out.2).mono ?_
  rintro _ w3 ⟨z, rfl, z0, z1, hd⟩
  have HD := hid (HD.out.trans hd)
  clear hd
  go_wp2_with fail
  refine (l01Byte_any g w3 HD.out.2).mono ?_
  rintro _ w4 ⟨u, rfl, u0, u1, hd⟩
  have HD := hid (HD.out.trans hd)
  clear hd
  have hm0 := Int.emod_nonneg (x * 16777216 + y * 65536 + z * 256 + u) (show n ≠ 0 by omega)
  have hm1 := Int.emod_lt_of_pos (x * 16777216 + y * 65536 + z * 256 + u) (show 0 < n by omega)
  have htm : (x * 16777216 + y * 65536 + z * 256 + u).tmod n = (x * 16777216 + y * 65536 + z * 256 + u) % n := Int.tmod_eq_emod_of_nonneg (by omega)
  go_wp2_with fail
  go_ret
  exact ⟨(x * 16777216 + y * 65536 + z * 256 + u) % n, by first | rfl | (rw [← htm]; rfl), hm0, by omega, HD.out⟩
theorem info_PointR : (Try.prog.info? 28).map (fun i => (i.zero, i.size, i.bytes)) = some (some (.agg #[.int .i64 0, .int .i64 0]), 2, 16) := by kernel_rfl
theorem own_farR {w : World} {base n size : Nat} {e : TypeId} {v : Value} {cs : List Value} (h : w.ownsRow base e size v n cs) {p : Addr} (hp : p.block < base) (u : Value) : (w.setCell p u).ownsRow base e size v n cs :=
  h.kept (only_setCell (World.grownBy.refl _ _) (g := p.block) (.inl rfl) u) (.inr fun h1 => by have := (h.lt _ h1).1; omega)
theorem lit_own (w : World) (B n size g : Nat) (hg : g = w.heap.size) (cs : Array Value) (e : TypeId) (hB : B ≤ w.heap.size) (hs : cs.size = n * size) (hn : n ≤ 1000000) : (w.alloc (.cells cs e)).ownsRow B e size (.slice (some ⟨g, 0, none⟩) n n) n cs.toList := by
  subst hg
  refine ⟨by simpa using hs, .inr ⟨w.heap.size, n, cs, rfl, hB, heap_alloc_new w _, Nat.le_refl _, by unfold maxLen; omega, hs, ?_⟩⟩
  exact List.take_of_length_le (by rw [Array.length_toList, hs]; exact Nat.le_refl _)
/-- A valid room whose coordinates are at most m. -/
def RoomN (m : Int) (L : List T2) : Prop := roomS L = true ∧ ∀ j, j < L.length → near m (at2 L j)
def shape0 : List T2 := [⟨0, 0⟩, ⟨4, 0⟩, ⟨4, 4⟩, ⟨0, 4⟩]
theorem shape0_ok : RoomN 10 shape0 := ⟨by kernel_rfl, fun j hj => by
  have hj : j < 4 := hj
  rcases (show j = 0 ∨ j = 1 ∨ j = 2 ∨ j = 3 by omega) with rfl | rfl | rfl | rfl <;> (unfold near; decide)⟩
def shape1 : List T2 := [⟨0, 0⟩, ⟨5, 0⟩, ⟨2, 4⟩]
theorem shape1_ok : RoomN 10 shape1 := ⟨by kernel_rfl, fun j hj => by
  have hj : j < 3 := hj
  rcases (show j = 0 ∨ j = 1 ∨ j = 2 by omega) with rfl | rfl | rfl <;> (unfold near; decide)⟩
def shape2 : List T2 := [⟨0, 0⟩, ⟨6, 0⟩, ⟨6, 2⟩, ⟨2, 2⟩, ⟨2, 6⟩, ⟨0, 6⟩]
theorem shape2_ok : RoomN 10 shape2 := ⟨by kernel_rfl, fun j hj => by
  have hj : j < 6 := hj
  rcases (show j = 0 ∨ j = 1 ∨ j = 2 ∨ j = 3 ∨ j = 4 ∨ j = 5 by omega) with rfl | rfl | rfl | rfl | rfl | rfl <;> (unfold near; decide)⟩
def shape3 : List T2 := [⟨0, 0⟩, ⟨8, 0⟩, ⟨8, 6⟩, ⟨4, 2⟩, ⟨0, 6⟩]
theorem shape3_ok : RoomN 10 shape3 := ⟨by kernel_rfl, fun j hj => by
  have hj : j < 5 := hj
  rcases (show j = 0 ∨ j = 1 ∨ j = 2 ∨ j = 3 ∨ j = 4 by omega) with rfl | rfl | rfl | rfl | rfl <;> (unfold near; decide)⟩
def shape4 : List T2 := [⟨0, 0⟩, ⟨10, 0⟩, ⟨10, 5⟩, ⟨8, 1⟩, ⟨5, 5⟩, ⟨2, 1⟩, ⟨0, 5⟩]
theorem shape4_ok : RoomN 10 shape4 := ⟨by kernel_rfl, fun j hj => by
  have hj : j < 7 := hj
  rcases (show j = 0 ∨ j = 1 ∨ j = 2 ∨ j = 3 ∨ j = 4 ∨ j = 5 ∨ j = 6 by omega) with rfl | rfl | rfl | rfl | rfl | rfl | rfl <;> (unfold near; decide)⟩
def shape5 : List T2 := [⟨0, 0⟩, ⟨7, 0⟩, ⟨7, 7⟩, ⟨1, 7⟩, ⟨1, 3⟩, ⟨3, 3⟩, ⟨3, 5⟩, ⟨5, 5⟩, ⟨5, 2⟩, ⟨0, 2⟩]
theorem shape5_ok : RoomN 10 shape5 := ⟨by kernel_rfl, fun j hj => by
  have hj : j < 10 := hj
  rcases (show j = 0 ∨ j = 1 ∨ j = 2 ∨ j = 3 ∨ j = 4 ∨ j = 5 ∨ j = 6 ∨ j = 7 ∨ j = 8 ∨ j = 9 by omega) with rfl | rfl | rfl | rfl | rfl | rfl | rfl | rfl | rfl | rfl <;> (unfold near; decide)⟩
def shape6 : List T2 := [⟨0, 0⟩, ⟨4, 2⟩, ⟨8, 0⟩, ⟨5, 3⟩, ⟨4, 7⟩, ⟨3, 3⟩]
theorem shape6_ok : RoomN 10 shape6 := ⟨by kernel_rfl, fun j hj => by
  have hj : j < 6 := hj
  rcases (show j = 0 ∨ j = 1 ∨ j = 2 ∨ j = 3 ∨ j = 4 ∨ j = 5 by omega) with rfl | rfl | rfl | rfl | rfl | rfl <;> (unfold near; decide)⟩
def shape7 : List T2 := [⟨0, 0⟩, ⟨6, 1⟩, ⟨7, 4⟩, ⟨3, 6⟩, ⟨1, 3⟩]
theorem shape7_ok : RoomN 10 shape7 := ⟨by kernel_rfl, fun j hj => by
  have hj : j < 5 := hj
  rcases (show j = 0 ∨ j = 1 ∨ j = 2 ∨ j = 3 ∨ j = 4 by omega) with rfl | rfl | rfl | rfl | rfl <;> (unfold near; decide)⟩
set_option maxRecDepth 100000 in
set_option maxHeartbeats 3200000 in
theorem l04Shape_any (k : Int) (hk : 0 ≤ k ∧ k ≤ 7) (w : World) : Calls Try.prog 42 #[.int .i64 k] w fun e w' => ∃ (A : Option Addr) (n : Nat) (L : List T2), e = .returned (.agg #[.slice A n n]) ∧ L.length = n ∧ RoomN 10 L ∧ w'.ownsRow w.heap.size 28 2 (.slice A n n) n (L.flatMap T2.v) ∧ Ext w w' := by
  rcases (show k = 0 ∨ k = 1 ∨ k = 2 ∨ k = 3 ∨ k = 4 ∨ k = 5 ∨ k = 6 ∨ k = 7 by omega) with rfl | rfl | rfl | rfl | rfl | rfl | rfl | rfl
  · go_enter Try.func42, Try.ntmps42
    go_wp2_with fail
    refine bodyPost_ret (v := .agg #[.slice (some ⟨w.heap.size + 1, 0, none⟩) 4 4]) (by first | (simp [results, Try.results42, go_sem]; done) | (unfold results; rw [Try.results42]; go_simp)) rfl ?_
    refine ⟨_, 4, shape0, rfl, rfl, shape0_ok, own_base (lit_own (w.alloc _) (w.heap.size + 1) 4 2 (w.heap.size + 1) (by simp) #[.int .i64 0, .int .i64 0, .int .i64 4, .int .i64 0, .int .i64 4, .int .i64 4, .int .i64 0, .int .i64 4] 28 (by simp) rfl (by omega)) (Nat.le_succ _), ?_⟩
    repeat (first | exact Ext.refl _ | refine Ext.alloc ?_ _ | assumption | refine Ext.over ?_ _ | refine Ext.drew ?_ | refine Ext.drewN ?_ _)
  · go_enter Try.func42, Try.ntmps42
    go_wp2_with fail
    refine bodyPost_ret (v := .agg #[.slice (some ⟨w.heap.size + 1, 0, none⟩) 3 3]) (by first | (simp [results, Try.results42, go_sem]; done) | (unfold results; rw [Try.results42]; go_simp)) rfl ?_
    refine ⟨_, 3, shape1, rfl, rfl, shape1_ok, own_base (lit_own (w.alloc _) (w.heap.size + 1) 3 2 (w.heap.size + 1) (by simp) #[.int .i64 0, .int .i64 0, .int .i64 5, .int .i64 0, .int .i64 2, .int .i64 4] 28 (by simp) rfl (by omega)) (Nat.le_succ _), ?_⟩
    repeat (first | exact Ext.refl _ | refine Ext.alloc ?_ _ | assumption | refine Ext.over ?_ _ | refine Ext.drew ?_ | refine Ext.drewN ?_ _)
  · go_enter Try.func42, Try.ntmps42
    go_wp2_with fail
    refine bodyPost_ret (v := .agg #[.slice (some ⟨w.heap.size + 1, 0, none⟩) 6 6]) (by first | (simp [results, Try.results42, go_sem]; done) | (unfold results; rw [Try.results42]; go_simp)) rfl ?_
    refine ⟨_, 6, shape2, rfl, rfl, shape2_ok, own_base (lit_own (w.alloc _) (w.heap.size + 1) 6 2 (w.heap.size + 1) (by simp) #[.int .i64 0, .int .i64 0, .int .i64 6, .int .i64 0, .int .i64 6, .int .i64 2, .int .i64 2, .int .i64 2, .int .i64 2, .int .i64 6, .int .i64 0, .int .i64 6] 28 (by simp) rfl (by omega)) (Nat.le_succ _), ?_⟩
    repeat (first | exact Ext.refl _ | refine Ext.alloc ?_ _ | assumption | refine Ext.over ?_ _ | refine Ext.drew ?_ | refine Ext.drewN ?_ _)
  · go_enter Try.func42, Try.ntmps42
    go_wp2_with fail
    refine bodyPost_ret (v := .agg #[.slice (some ⟨w.heap.size + 1, 0, none⟩) 5 5]) (by first | (simp [results, Try.results42, go_sem]; done) | (unfold results; rw [Try.results42]; go_simp)) rfl ?_
    refine ⟨_, 5, shape3, rfl, rfl, shape3_ok, own_base (lit_own (w.alloc _) (w.heap.size + 1) 5 2 (w.heap.size + 1) (by simp) #[.int .i64 0, .int .i64 0, .int .i64 8, .int .i64 0, .int .i64 8, .int .i64 6, .int .i64 4, .int .i64 2, .int .i64 0, .int .i64 6] 28 (by simp) rfl (by omega)) (Nat.le_succ _), ?_⟩
    repeat (first | exact Ext.refl _ | refine Ext.alloc ?_ _ | assumption | refine Ext.over ?_ _ | refine Ext.drew ?_ | refine Ext.drewN ?_ _)
  · go_enter Try.func42, Try.ntmps42
    go_wp2_with fail
    refine bodyPost_ret (v := .agg #[.slice (some ⟨w.heap.size + 1, 0, none⟩) 7 7]) (by first | (simp [results, Try.results42, go_sem]; done) | (unfold results; rw [Try.results42]; go_simp)) rfl ?_
    refine ⟨_, 7, shape4, rfl, rfl, shape4_ok, own_base (lit_own (w.alloc _) (w.heap.size + 1) 7 2 (w.heap.size + 1) (by simp) #[.int .i64 0, .int .i64 0, .int .i64 10, .int .i64 0, .int .i64 10, .int .i64 5, .int .i64 8, .int .i64 1, .int .i64 5, .int .i64 5, .int .i64 2, .int .i64 1, .int .i64 0, .int .i64 5] 28 (by simp) rfl (by omega)) (Nat.le_succ _), ?_⟩
    repeat (first | exact Ext.refl _ | refine Ext.alloc ?_ _ | assumption | refine Ext.over ?_ _ | refine Ext.drew ?_ | refine Ext.drewN ?_ _)
  · go_enter Try.func42, Try.ntmps42
    go_wp2_with fail
    refine bodyPost_ret (v := .agg #[.slice (some ⟨w.heap.size + 1, 0, none⟩) 10 10]) (by first | (simp [results, Try.results42, go_sem]; done) | (unfold results; rw [Try.results42]; go_simp)) rfl ?_
    refine ⟨_, 10, shape5, rfl, rfl, shape5_ok, own_base (lit_own (w.alloc _) (w.heap.size + 1) 10 2 (w.heap.size + 1) (by simp) #[.int .i64 0, .int .i64 0, .int .i64 7, .int .i64 0, .int .i64 7, .int .i64 7, .int .i64 1, .int .i64 7, .int .i64 1, .int .i64 3, .int .i64 3, .int .i64 3, .int .i64 3, .int .i64 5, .int .i64 5, .int .i64 5, .int .i64 5, .int .i64 2, .int .i64 0, .int .i64 2] 28 (by simp) rfl (by omega)) (Nat.le_succ _), ?_⟩
    repeat (first | exact Ext.refl _ | refine Ext.alloc ?_ _ | assumption | refine Ext.over ?_ _ | refine Ext.drew ?_ | refine Ext.drewN ?_ _)
  · go_enter Try.func42, Try.ntmps42
    go_wp2_with fail
    refine bodyPost_ret (v := .agg #[.slice (some ⟨w.heap.size + 1, 0, none⟩) 6 6]) (by first | (simp [results, Try.results42, go_sem]; done) | (unfold results; rw [Try.results42]; go_simp)) rfl ?_
    refine ⟨_, 6, shape6, rfl, rfl, shape6_ok, own_base (lit_own (w.alloc _) (w.heap.size + 1) 6 2 (w.heap.size + 1) (by simp) #[.int .i64 0, .int .i64 0, .int .i64 4, .int .i64 2, .int .i64 8, .int .i64 0, .int .i64 5, .int .i64 3, .int .i64 4, .int .i64 7, .int .i64 3, .int .i64 3] 28 (by simp) rfl (by omega)) (Nat.le_succ _), ?_⟩
    repeat (first | exact Ext.refl _ | refine Ext.alloc ?_ _ | assumption | refine Ext.over ?_ _ | refine Ext.drew ?_ | refine Ext.drewN ?_ _)
  · go_enter Try.func42, Try.ntmps42
    go_wp2_with fail
    refine bodyPost_ret (v := .agg #[.slice (some ⟨w.heap.size + 1, 0, none⟩) 5 5]) (by first | (simp [results, Try.results42, go_sem]; done) | (unfold results; rw [Try.results42]; go_simp)) rfl ?_
    refine ⟨_, 5, shape7, rfl, rfl, shape7_ok, own_base (lit_own (w.alloc _) (w.heap.size + 1) 5 2 (w.heap.size + 1) (by simp) #[.int .i64 0, .int .i64 0, .int .i64 6, .int .i64 1, .int .i64 7, .int .i64 4, .int .i64 3, .int .i64 6, .int .i64 1, .int .i64 3] 28 (by simp) rfl (by omega)) (Nat.le_succ _), ?_⟩
    repeat (first | exact Ext.refl _ | refine Ext.alloc ?_ _ | assumption | refine Ext.over ?_ _ | refine Ext.drew ?_ | refine Ext.drewN ?_ _)
theorem one2 {l : List T2} : ∀ u ∈ l.flatMap T2.v, u.oneCell' = true := by
  intro u hu
  obtain ⟨x, _, hx⟩ := List.mem_flatMap.1 hu
  simp only [T2.v, List.mem_cons, List.not_mem_nil, or_false] at hx
  rcases hx with rfl | rfl <;> rfl
set_option maxRecDepth 100000 in
set_option maxHeartbeats 1600000 in
theorem l04Copy_any (A : Option Addr) (n c : Nat) (L : List T2) (w : World) (hl : Row w A (L.flatMap T2.v)) (hn : L.length = n) (hx : n ≤ 1048577) (hnone : A = none → c = 0) : Calls Try.prog 44 #[.agg #[.slice A n c]] w fun e w' => ∃ (B : Option Addr) (d : Nat), e = .returned (.agg #[.slice B n d]) ∧ w'.ownsRow w.heap.size 28 2 (.slice B n d) n (L.flatMap T2.v) ∧ Ext w w' := by
  subst hn
  have HL := hid hl
  clear hl
  go_enter Try.func44, Try.ntmps44
  obtain ⟨wb, hwb⟩ : ∃ wb, wb = (w.alloc (.cells #[.slice A L.length c] 26)).alloc (.cells #[.slice none 0 0] 26) := ⟨_, rfl⟩
  have EB : Ext w wb := by rw [hwb]; repeat (first | exact Ext.refl _ | refine Ext.alloc ?_ _ | assumption | refine Ext.over ?_ _ | refine Ext.drew ?_ | refine Ext.drewN ?_ _)
  have b0 : wb.cell? ⟨w.heap.size, 0, none⟩ = some (.slice A L.length c) := by rw [hwb]; go_simp
  have b1 : wb.cell? ⟨w.heap.size + 1, 0, none⟩ = some (.slice none 0 0) := by rw [hwb]; go_simp
  have f1 : wb.frozen? ⟨w.heap.size + 1, 0, none⟩ = false := by rw [hwb]; go_simp
  have HSZ := hid (show w.heap.size + 2 = wb.heap.size by rw [hwb]; simp)
  have HO := hid (own_empty wb wb.heap.size wb.heap.size rfl (Nat.le_refl _) 28 2)
  go_wp2_with (at_builtin; refine wpList_pushS ((w.alloc (.cells #[.slice A L.length c] 26)).alloc (.cells #[.slice none 0 0] 26)) rfl (.tmp 3) (.tmp 5) 24 rfl 28 Try.underlying24 info_PointR rfl (by decide) _ 0 [] rfl (((w.alloc (.cells #[.slice A L.length c] 26)).alloc (.cells #[.slice none 0 0] 26)).alloc (.cells #[] 28)) (own_empty _ _ _ (by simp) (Nat.le_refl _) 28 2) (by repeat (first | exact Ext.refl _ | refine Ext.alloc ?_ _ | assumption | refine Ext.over ?_ _ | refine Ext.drew ?_ | refine Ext.drewN ?_ _)) (by repeat (first | exact Ext.refl _ | refine Ext.alloc ?_ _ | assumption | refine Ext.over ?_ _ | refine Ext.drew ?_ | refine Ext.drewN ?_ _)) A L.length c (L.flatMap T2.v) rfl hnone (by rw [flat_len _ 2 T2.len]) (HL.out.ext (by repeat (first | exact Ext.refl _ | refine Ext.alloc ?_ _ | assumption | refine Ext.over ?_ _ | refine Ext.drew ?_ | refine Ext.drewN ?_ _))) one2 (by omega) (by decide) ?_)
  intro A2 c2 w2 ho he
  rw [← hwb] at he
  have ho : w2.ownsRow (w.heap.size + 1 + 1) 28 2 (.slice A2 L.length c2) L.length (L.flatMap T2.v) := by simpa using ho
  have d1 := old_cell he b1
  have g1 := (Below.frozen he (World.block_lt_of_cell? wb _ b1)).trans f1
  have HO2 := hid ho
  have HE := hid (EB.trans he)
  clear ho he hwb b0 b1 f1 HO
  go_wp2_with fail
  have hsz := HSZ.out
  refine bodyPost_ret (v := .agg #[.slice A2 L.length c2]) (by first | (simp [results, Try.results44, go_sem, d1]; done) | (unfold results; rw [Try.results44]; go_simp)) rfl ?_
  exact ⟨A2, c2, rfl, own_base (own_farR HO2.out (p := ⟨w.heap.size + 1, 0, none⟩) (by show w.heap.size + 1 < w.heap.size + 1 + 1; omega) _) (by omega), HE.out.setCell (by show w.heap.size ≤ w.heap.size + 1; omega) _⟩
end Go.Proofs.Ytelmpiaaaffmlaa
/-
  As XHer5, for a statement whose last operation may also write what its other operations read. Condition: a Bool on the statement's text, by the kernel: the last operation waits for all others.
-/
namespace Go.Proofs.Ytelmpiaaaffmlaa
open Go.RowKit
set_option linter.unusedVariables false

section
variable {P : Program} {ops : Array Oper} {md : Region.Mode} {R : World → World → Prop} {z : Nat}

def wpL (P : Program) (md : Region.Mode) (ops : Array Oper) (R : World → World → Prop) (z : Nat) (Q : Act → World → Prop) : Nat → Array Bool → Act → World → Prop
  | 0, listed, a, w => Region.ready md ops listed = [] ∧ Q a w
  | fuel + 1, listed, a, w => (Region.ready md ops listed = [] → Q a w) ∧
      ∀ i ∈ Region.ready md ops listed, herAt P ops i (fun a'' w'' => (i = z ∨ R w w'') ∧ wpL P md ops R z Q fuel (listed.setIfInBounds i true) a'' w'') a w
theorem wpAny_of_L {Q : Act → World → Prop} {Q' : Exit → Act → World → Prop} (hQ : ∀ a w, Q a w → Q' .normal a w) : ∀ (fuel : Nat) (listed : Array Bool) (a : Act) (w : World),
    wpL P md ops R z Q fuel listed a w → wpAny P md ops Q' fuel listed a w
  | 0, _, _, w, h => ⟨h.1, hQ _ _ h.2⟩
  | fuel + 1, _, _, w, h => ⟨fun h0 => hQ _ _ (h.1 h0), fun i hi => wpOp_of_herAt (fun a' w' h' => wpAny_of_L hQ fuel _ a' w' h'.2) (h.2 i hi)⟩
/-- The last operation waits for operation i. -/
def waits (md : Region.Mode) (ops : Array Oper) (z i : Nat) : Bool := match ops[z]? with
  | some o => o.after.any fun e => Region.binds md e && (e.on == i)
  | none => false
theorem waits_spec {i : Nat} (h : waits md ops z i = true) {listed : Array Bool} (hz : z ∈ Region.ready md ops listed) (hi : i ∈ Region.ready md ops listed) : False := by
  obtain ⟨_, oz, hoz, hall⟩ := mem_ready.1 hz
  unfold waits at h
  rw [hoz] at h
  simp only [Array.any_eq_true] at h
  obtain ⟨j, hj, he⟩ := h
  simp only [Bool.and_eq_true, beq_iff_eq] at he
  have h1 := hall _ (Array.getElem_mem hj) he.1
  have h0 := (mem_ready.1 hi).1
  rw [he.2] at h1
  rcases Nat.lt_or_ge i listed.size with h' | h'
  · simp [h'] at h0 h1; rw [h0] at h1; cases h1
  · simp [Array.getElem?_eq_none h'] at h1
theorem wpL_first (hR : Steady R) {Q : Act → World → Prop} {i : Nat} {oi : Oper} {v : Value} (hi : ops[i]? = some oi) (hsel : ∀ (j : Nat) (o : Oper) cs b, ops[j]? = some o → o.op ≠ .select cs b) (hwt : waits md ops z i = true) :
    ∀ (fuel : Nat) (listed : Array Bool) (a : Act) (w : World),
      (∀ j oj, ops[j]? = some oj → j ≠ i → listed.getD j true = false → (∀ e ∈ oj.after, Region.binds md e = true → e.on ≠ i) → oi.apart ops oj = true) →
      i ∈ Region.ready md ops listed → YieldsX P ops R w oi v a →
      wpL P md ops R z Q fuel (listed.setIfInBounds i true) (a.put oi.dst v) w → wpL P md ops R z Q (fuel + 1) listed a w := by
  intro fuel
  induction fuel with
  | zero =>
    intro listed a w _ hr hy H
    refine ⟨fun h => (by rw [h] at hr; cases hr), fun j hj => ?_⟩
    by_cases hji : j = i
    · subst hji
      exact herAt_yieldsX hR hi hy ⟨.inr (hR.1 w), H⟩
    · have := ready_mono hj hji
      rw [H.1] at this
      cases this
  | succ fuel ih =>
    intro listed a w hfree hr hy H
    refine ⟨fun h => (by rw [h] at hr; cases hr), fun j hj => ?_⟩
    by_cases hji : j = i
    · subst hji
      exact herAt_yieldsX hR hi hy ⟨.inr (hR.1 w), H⟩
    · have h1 := H.2 j (ready_mono hj hji)
      have hjz : j ≠ z := fun e => by subst e; exact waits_spec hwt hj hr
      obtain ⟨hjun, oj, hoj, hall⟩ := mem_ready.1 hj
      have hnot : ∀ e ∈ oj.after, Region.binds md e = true → e.on ≠ i := fun e he hb heq => by
        have h1 := hall e he hb
        have h0 := (mem_ready.1 hr).1
        rw [heq] at h1
        rcases Nat.lt_or_ge i listed.size with h' | h'
        · simp [h'] at h0 h1; rw [h0] at h1; cases h1
        · simp [Array.getElem?_eq_none h'] at h1
      have hfree' : ∀ k ok, ops[k]? = some ok → k ≠ i → (listed.setIfInBounds j true).getD k true = false →
          (∀ e ∈ ok.after, Region.binds md e = true → e.on ≠ i) → oi.apart ops ok = true := fun k ok hk hki hun hno => by
        refine hfree k ok hk hki ?_ hno
        by_cases hjk : j = k
        · subst hjk; exact hjun
        · rw [Go.getD_set_ne true hjk] at hun; exact hun
      have hap := hfree j oj hoj hji hjun hnot
      have hsi := fun cs b => hsel i oi cs b hi
      have h2 := herAt_putX hoj hap hsi (fun cs b => hsel j oj cs b hoj) hy h1
      refine herAt_mono (fun a' w' h3 => ?_) h2
      have hRj : R w w' := h3.2.1.resolve_left hjz
      refine ⟨.inr hRj, ih (listed.setIfInBounds j true) a' w' hfree' (ready_mono hr (Ne.symm hji)) (h3.1.later hR hRj) ?_⟩
      rw [Array.setIfInBounds_comm _ _ hji]
      exact h3.2.2
def stepL (P : Program) (ops : Array Oper) (o : Oper) (K : Act → World → Prop) (a : Act) (w : World) : Prop :=
  if Region.wanted o (yielded ops a.tmps) then herOp P o a w K else K (a.put o.dst undef) w
def wpE (P : Program) (ops : Array Oper) (R : World → World → Prop) (w1 : World) (oz : Oper) (Q : Act → World → Prop) : List StO → Act → World → Prop
  | [], a, w => stepL P ops oz Q a w
  | .q o :: r, a, w => if Region.wanted o (yielded ops a.tmps) then qR P R o a w1 (fun a' => wpE P ops R w1 oz Q r a' w) else wpE P ops R w1 oz Q r (a.put o.dst undef) w
  | .u o :: r, a, w => stepH P ops R o (wpE P ops R w1 oz Q r) a w
  | .s o o' :: r, a, w => stepH P ops R o (stepH P ops R o' (wpE P ops R w1 oz Q r)) a w ∧ stepH P ops R o' (stepH P ops R o (wpE P ops R w1 oz Q r)) a w
def okE (md : Region.Mode) (ops : Array Oper) (z : Nat) : List Stp → Array Bool → Bool
  | [], listed => decide (Region.ready md ops listed = [z]) && (Region.ready md ops (listed.setIfInBounds z true)).isEmpty
  | .q i :: r, listed => (Region.ready md ops listed).contains i && Region.free md ops listed i && waits md ops z i && okE md ops z r (listed.setIfInBounds i true)
  | .u i :: r, listed => decide (Region.ready md ops listed = [i]) && okE md ops z r (listed.setIfInBounds i true)
  | .s i j :: r, listed => decide (Region.ready md ops listed = [i, j]) && (decide (Region.ready md ops (listed.setIfInBounds i true) = [j]) && (decide (Region.ready md ops (listed.setIfInBounds j true) = [i]) && okE md ops z r ((listed.setIfInBounds i true).setIfInBounds j true)))
theorem stepH_atL {i : Nat} {o : Oper} {K K' : Act → World → Prop} {a : Act} {w : World} (hR : Steady R) (hi : ops[i]? = some o) (hk : ∀ a'' w'', R w w'' → K a'' w'' → K' a'' w'') (h : stepH P ops R o K a w) :
    herAt P ops i (fun a'' w'' => (i = z ∨ R w w'') ∧ K' a'' w'') a w := herAt_mono (fun _ _ h => ⟨.inr h.1, h.2⟩) (stepH_at hR hi hk h)
theorem wpE_script (hR : Steady R) {l : List Oper} {w1 : World} {oz : Oper} {Q : Act → World → Prop} (hs : Region.noSelect l.toArray = true) (hz : l[z]? = some oz) : ∀ (sc : List Stp) (listed : Array Bool) (a : Act) (w : World), R w1 w →
    okE md l.toArray z sc listed = true → wpE P l.toArray R w1 oz Q (pick l sc) a w → wpL P md l.toArray R z Q (cntS sc + 1) listed a w
  | [], listed, a, w, hb, hB, h => by
    simp only [okE, Bool.and_eq_true, decide_eq_true_eq] at hB
    refine ⟨fun h0 => (by rw [hB.1] at h0; cases h0), fun j hj => ?_⟩
    rw [hB.1] at hj
    obtain rfl : j = z := by simpa using hj
    have hK : ∀ (a'' : Act) (w'' : World), Q a'' w'' → (j = j ∨ R w w'') ∧ wpL P md l.toArray R j Q 0 (listed.setIfInBounds j true) a'' w'' := fun a'' w'' hq => ⟨.inl rfl, by simpa using hB.2, hq⟩
    have h' : stepL P l.toArray oz Q a w := h
    unfold stepL at h'
    unfold herAt
    have hz' : l.toArray[j]? = some oz := by simpa using hz
    rw [hz']; dsimp only
    split
    · rename_i hw
      rw [if_pos hw] at h'
      exact herOp_mono (fun a w h => hK _ _ h) h'
    · rename_i hw
      rw [if_neg hw] at h'
      exact hK _ _ h'
  | .q i :: r, listed, a, w, hb, hB, h => by
    simp only [okE, Bool.and_eq_true] at hB
    obtain ⟨⟨⟨hr, hf⟩, hwt⟩, hB'⟩ := hB
    have hri : i ∈ Region.ready md l.toArray listed := by simpa using hr
    obtain ⟨_, o, ho, _⟩ := mem_ready.1 hri
    have hol : l[i]? = some o := by simpa using ho
    simp only [pick, hol] at h
    unfold wpE at h
    show wpL P md l.toArray R z Q (cntS r + 1 + 1) listed a w
    by_cases hw : Region.wanted o (yielded l.toArray a.tmps) = true
    · rw [if_pos hw] at h
      obtain ⟨v, hv, hK⟩ := h
      exact wpL_first (hR) ho (Region.noSelect_spec hs) hwt (cntS r + 1) listed a w (Region.free_spec ho hf) hri (.inl ⟨hw, fun w0 h0 => hv w0 (hR.2 _ _ _ hb h0)⟩) (wpE_script hR hs hz r _ _ w hb hB' hK)
    · rw [if_neg hw] at h
      exact wpL_first (hR) ho (Region.noSelect_spec hs) hwt (cntS r + 1) listed a w (Region.free_spec ho hf) hri (.inr ⟨by simpa using hw, rfl⟩) (wpE_script hR hs hz r _ _ w hb hB' h)
  | .u i :: r, listed, a, w, hb, hB, h => by
    simp only [okE, Bool.and_eq_true, decide_eq_true_eq] at hB
    have hri : i ∈ Region.ready md l.toArray listed := by rw [hB.1]; simp
    obtain ⟨_, o, ho, _⟩ := mem_ready.1 hri
    have hol : l[i]? = some o := by simpa using ho
    simp only [pick, hol] at h
    unfold wpE at h
    show wpL P md l.toArray R z Q (cntS r + 1 + 1) listed a w
    refine And.intro (fun h0 => by rw [hB.1] at h0; cases h0) (fun j hj => ?_)
    rw [hB.1] at hj
    obtain rfl : j = i := by simpa using hj
    exact stepH_atL (hR) ho (fun a'' w'' hr1 hk => wpE_script hR hs hz r _ _ _ (hR.2 _ _ _ hb hr1) hB.2 hk) h
  | .s i j :: r, listed, a, w, hb, hB, h => by
    simp only [okE, Bool.and_eq_true, decide_eq_true_eq] at hB
    obtain ⟨h1, h2, h3, h4⟩ := hB
    have hri : i ∈ Region.ready md l.toArray listed := by rw [h1]; simp
    have hrj : j ∈ Region.ready md l.toArray listed := by rw [h1]; simp
    obtain ⟨_, o, ho, _⟩ := mem_ready.1 hri
    obtain ⟨_, o', ho', _⟩ := mem_ready.1 hrj
    have hol : l[i]? = some o := by simpa using ho
    have hol' : l[j]? = some o' := by simpa using ho'
    simp only [pick, hol, hol'] at h
    unfold wpE at h
    show wpL P md l.toArray R z Q (cntS r + 1 + 1 + 1) listed a w
    refine And.intro (fun h0 => by rw [h1] at h0; cases h0) (fun q hq => ?_)
    rw [h1] at hq
    by_cases hqi : q = i
    · subst hqi
      refine stepH_atL (hR) ho (fun a'' w'' hr1 hk => ?_) h.1
      refine And.intro (fun h0 => by rw [h2] at h0; cases h0) (fun p hp => ?_)
      rw [h2] at hp
      obtain rfl : p = j := by simpa using hp
      exact stepH_atL (hR) ho' (fun a3 w3 hR3 hk3 => wpE_script hR hs hz r _ _ _ (hR.2 _ _ _ hb (hR.2 _ _ _ hr1 hR3)) h4 hk3) hk
    · obtain rfl : q = j := by
        rcases (show q = i ∨ q = j by simpa using hq) with h5 | h5
        · exact absurd h5 hqi
        · exact h5
      refine stepH_atL (hR) ho' (fun a'' w'' hr1 hk => ?_) h.2
      refine And.intro (fun h0 => by rw [h3] at h0; cases h0) (fun p hp => ?_)
      rw [h3] at hp
      obtain rfl : p = i := by simpa using hp
      exact stepH_atL (hR) ho (fun a3 w3 hR3 hk3 => wpE_script hR hs hz r _ _ _ (hR.2 _ _ _ hb (hR.2 _ _ _ hr1 hR3)) (by rw [Array.setIfInBounds_comm _ _ hqi]; exact h4) hk3) hk
theorem wp_region_e (R : World → World → Prop) (hR : Steady R) {id : Nat} {Q : Exit → Act → World → Prop} {a : Act} {w : World} {l : List Oper} (sc : List Stp) (z : Nat) (oz : Oper) (hz : l[z]? = some oz) (hm : P.follows .mixedOrders = true)
    (hB : (Region.noSelect l.toArray && decide (cntS sc + 1 = l.length) && okE .any l.toArray z sc (Array.replicate l.length false)) = true)
    (h : ∀ w1, Ext w w1 → wpE P l.toArray R w1 oz (fun a'' w'' => Q .normal a'' w'') (pick l sc) a w1) : (Code.region id l.toArray true).wp P Q a w := by
  simp only [Bool.and_eq_true, decide_eq_true_eq] at hB
  obtain ⟨⟨h1, h2⟩, h3⟩ := hB
  refine wp_region_any hm ?_
  have h4 := wpE_script (md := .any) (w1 := w.drew) hR h1 hz sc (Array.replicate l.length false) a w.drew (hR.1 _) h3 (h w.drew (Below.drew (Below.refl _ _)))
  rw [h2] at h4
  simpa using wpAny_of_L (fun a w h => h) _ _ _ _ h4
theorem wpE_nil {w1 : World} {oz : Oper} {Q : Act → World → Prop} {a : Act} {w : World} (h : ∀ K : Act → World → Prop, (∀ a w, Q a w → K a w) → if Region.wanted oz (yielded ops a.tmps) then herOp P oz a w K else K (a.put oz.dst undef) w) : wpE P ops R w1 oz Q [] a w := h _ (fun _ _ h => h)
theorem wpE_q {w1 : World} {oz : Oper} {Q : Act → World → Prop} {a : Act} {w : World} {o : Oper} {r : List StO}
    (h : ∀ K : Act → Prop, (∀ a, wpE P ops R w1 oz Q r a w → K a) → if Region.wanted o (yielded ops a.tmps) then qR P R o a w1 K else K (a.put o.dst undef)) : wpE P ops R w1 oz Q (.q o :: r) a w :=
  h _ (fun _ h => h)
theorem wpE_u {w1 : World} {oz : Oper} {Q : Act → World → Prop} {a : Act} {w : World} {o : Oper} {r : List StO} (h : stepH P ops R o (wpE P ops R w1 oz Q r) a w) : wpE P ops R w1 oz Q (.u o :: r) a w := h
theorem wpE_s {w1 : World} {oz : Oper} {Q : Act → World → Prop} {a : Act} {w : World} {o o' : Oper} {r : List StO} (h : stepH P ops R o (stepH P ops R o' (wpE P ops R w1 oz Q r)) a w) (h' : stepH P ops R o' (stepH P ops R o (wpE P ops R w1 oz Q r)) a w) : wpE P ops R w1 oz Q (.s o o' :: r) a w := ⟨h, h'⟩
end
end Go.Proofs.Ytelmpiaaaffmlaa
/- Walks: a point is drawn. Conditions: sizes. -/
namespace Go.Proofs.Ytelmpiaaaffmlaa
open Go.RowKit
set_option linter.unusedVariables false

theorem Drawn.of_ext {w w1 w2 : World} {g : Nat} (e : Ext w w1) (h : Drawn w1 w2 g) : Drawn w w2 g := ⟨grown_then (ext_grown e (some g)) h.1 (.inl rfl), h.2⟩
/-- A write to memory that was made since. -/
theorem Drawn.setc {w w1 : World} {g b i : Nat} (h : Drawn w w1 g) (hb : w.heap.size ≤ b) (hg : g < w.heap.size) (u : Value) : Drawn w (w1.setCell ⟨b, i, none⟩ u) g :=
  h.grown (row := some b) (only_setCell (g := b) (p := ⟨b, i, none⟩) (World.grownBy.refl _ _) (.inl rfl) u) hg (fun k hk => by injection hk with hk; omega)
set_option maxRecDepth 100000 in
set_option maxHeartbeats 1600000 in
theorem l02Point_any (g : Nat) (w : World) (hc : Cur w g) : Calls Try.prog 62 #[.pointer (some ⟨g, 0, none⟩)] w fun e w' => ∃ x y : Int, e = .returned (.agg #[.int .i64 x, .int .i64 y]) ∧ (-2 ≤ x ∧ x ≤ 6) ∧ (-2 ≤ y ∧ y ≤ 6) ∧ Drawn w w' g := by
  have hlow := hc.lt
  have HC := hid hc
  clear hc
  go_enter Try.func62, Try.ntmps62
  go_wp2_with fail
  refine (l01Below_any g 9 _ (HC.out.ext (by repeat (first | exact Ext.refl _ | refine Ext.alloc ?_ _ | assumption | refine Ext.over ?_ _ | refine Ext.drew ?_ | refine Ext.drewN ?_ _))) (by omega)).mono ?_
  rintro _ w1 ⟨v, rfl, v0, v1, hd⟩
  have p0 : w1.cell? ⟨w.heap.size, 0, none⟩ = some (.int .i64 0) := (hd.cell (p := ⟨w.heap.size, 0, none⟩) (by simp) (by show w.heap.size ≠ g; omega)).trans (by go_simp)
  have p1 : w1.cell? ⟨w.heap.size, 1, none⟩ = some (.int .i64 0) := (hd.cell (p := ⟨w.heap.size, 1, none⟩) (by simp) (by show w.heap.size ≠ g; omega)).trans (by go_simp)
  have b1 : w1.heap[w.heap.size]? = (w.alloc (.cells #[.int .i64 0, .int .i64 0] 28)).heap[w.heap.size]? := hd.1.block _ (by simp) (by intro e; injection e with e; omega)
  have q0 : w1.frozen? ⟨w.heap.size, 0, none⟩ = false := (World.frozen?_of_block (a := ⟨w.heap.size, 0, none⟩) b1).trans (by go_simp)
  have q1 : w1.frozen? ⟨w.heap.size, 1, none⟩ = false := (World.frozen?_of_block (a := ⟨w.heap.size, 1, none⟩) b1).trans (by go_simp)
  have HD1 := hid (Drawn.of_ext (show Ext w _ by repeat (first | exact Ext.refl _ | refine Ext.alloc ?_ _ | assumption | refine Ext.over ?_ _ | refine Ext.drew ?_ | refine Ext.drewN ?_ _)) hd)
  have hs1 := hd.size
  have hsz1 : w.heap.size < w1.heap.size := by simp at hs1; omega
  clear hd b1 hs1
  go_wp2_with fail
  refine (l01Below_any g 9 w1 HD1.out.2 (by omega)).mono ?_
  rintro _ w2 ⟨u, rfl, u0, u1, hd⟩
  have b2 : w2.heap[w.heap.size]? = w1.heap[w.heap.size]? := hd.1.block _ hsz1 (by intro e; injection e with e; omega)
  have p0 := (World.cell?_of_block (a := ⟨w.heap.size, 0, none⟩) b2).trans p0
  have p1 := (World.cell?_of_block (a := ⟨w.heap.size, 1, none⟩) b2).trans p1
  have q0 := (World.frozen?_of_block (a := ⟨w.heap.size, 0, none⟩) b2).trans q0
  have q1 := (World.frozen?_of_block (a := ⟨w.heap.size, 1, none⟩) b2).trans q1
  have HD2 := hid (HD1.out.trans hd)
  have hx : wrap64 (v - 2) = v - 2 := IntWalk.wrap64_in _ (by omega)
  have hy : wrap64 (u - 2) = u - 2 := IntWalk.wrap64_in _ (by omega)
  clear hd b2 HD1
  go_wp2_with fail
  refine bodyPost_ret (v := .agg #[.int .i64 (v - 2), .int .i64 (u - 2)]) (by first | (simp [results, Try.results62, go_sem, p0, p1]; done) | (unfold results; rw [Try.results62]; go_simp)) rfl ?_
  exact ⟨v - 2, u - 2, rfl, by omega, by omega, (HD2.out.setc (Nat.le_refl _) hlow _).setc (Nat.le_refl _) hlow _⟩
end Go.Proofs.Ytelmpiaaaffmlaa
/- Walks: a room is drawn. Conditions: sizes. -/
namespace Go.Proofs.Ytelmpiaaaffmlaa
open Go.RowKit
set_option linter.unusedVariables false

def Box (w : World) (b : Nat) (v : Value) : Prop := w.cell? ⟨b, 0, none⟩ = some v ∧ w.frozen? ⟨b, 0, none⟩ = false
theorem Box.lt {w : World} {b : Nat} {v : Value} (h : Box w b v) : b < w.heap.size := World.block_lt_of_cell? w _ h.1
theorem Box.blk {w w' : World} {b : Nat} {v : Value} (h : Box w b v) (hb : w'.heap[b]? = w.heap[b]?) : Box w' b v := ⟨(World.cell?_of_block (a := ⟨b, 0, none⟩) hb).trans h.1, (World.frozen?_of_block (a := ⟨b, 0, none⟩) hb).trans h.2⟩
theorem Box.ext {w w' : World} {b : Nat} {v : Value} (h : Box w b v) (he : Ext w w') : Box w' b v := h.blk (he.block _ h.lt)
theorem Box.grown {w w' : World} {b : Nat} {v : Value} (h : Box w b v) {row : Option Nat} (hg : w.grownBy w' row) (hne : row ≠ some b) : Box w' b v := h.blk (hg.block _ h.lt (fun e => hne e.symm))
theorem Box.put {w : World} {b : Nat} {v : Value} (h : Box w b v) (u : Value) : Box (w.setCell ⟨b, 0, none⟩ u) b u := by
  have hc := h.1
  have hf := h.2
  exact ⟨by go_simp, (froz_set _).trans hf⟩
theorem flat_set0 : ∀ {L : List T2} {i : Nat} (x : Int), i < L.length → (L.flatMap T2.v).set (i * 2) (.int .i64 x) = (L.set i ⟨x, (at2 L i).b⟩).flatMap T2.v
  | a :: l, 0, x, _ => rfl
  | a :: l, i + 1, x, h => by
    have ih := flat_set0 (L := l) (i := i) x (by simpa using h)
    have e : at2 (a :: l) (i + 1) = at2 l i := rfl
    rw [e, List.set_cons_succ, List.flatMap_cons, List.flatMap_cons, ← ih, show (i + 1) * 2 = i * 2 + 1 + 1 by omega]
    rfl
theorem flat_set1 : ∀ {L : List T2} {i : Nat} (x : Int), i < L.length → (L.flatMap T2.v).set (i * 2 + 1) (.int .i64 x) = (L.set i ⟨(at2 L i).a, x⟩).flatMap T2.v
  | a :: l, 0, x, _ => rfl
  | a :: l, i + 1, x, h => by
    have ih := flat_set1 (L := l) (i := i) x (by simpa using h)
    have e : at2 (a :: l) (i + 1) = at2 l i := rfl
    rw [e, List.set_cons_succ, List.flatMap_cons, List.flatMap_cons, ← ih, show (i + 1) * 2 + 1 = (i * 2 + 1) + 1 + 1 by omega]
    rfl
theorem at2_set {L : List T2} {i j : Nat} {p : T2} (hi : i < L.length) : at2 (L.set i p) j = if i = j then p else at2 L j := by
  unfold at2
  rw [List.getD_eq_getElem?_getD, List.getElem?_set, List.getD_eq_getElem?_getD]
  split
  · rename_i e; subst e; simp
  · rfl
/-- What the draw of a room keeps: the cursor, the result's box, the room's box and row. -/
structure Rm (w0 w : World) (g b2 br : Nat) (A : Option Addr) (n c : Nat) (L : List T2) : Prop where
  cur : Cur w g
  grow : w0.grownBy w (some g)
  low : g < w0.heap.size
  le2 : w0.heap.size ≤ b2
  ler : w0.heap.size ≤ br
  ne : b2 ≠ br
  x2 : Box w b2 (.slice none 0 0)
  xr : Box w br (.slice A n c)
  own : w.ownsRow w0.heap.size 28 2 (.slice A n c) n (L.flatMap T2.v)
  far : ∀ j, (Value.slice A n c).ownBlock = some j → j ≠ b2 ∧ j ≠ br
section
variable {w0 w w' : World} {g b2 br : Nat} {A : Option Addr} {n c : Nat} {L : List T2}
theorem Rm.ext (s : Rm w0 w g b2 br A n c L) (he : Ext w w') : Rm w0 w' g b2 br A n c L :=
  ⟨s.cur.ext he, grown_then s.grow (ext_grown he (some g)) (.inl rfl), s.low, s.le2, s.ler, s.ne, s.x2.ext he, s.xr.ext he, own_ext s.own he, s.far⟩
theorem Rm.drawn (s : Rm w0 w g b2 br A n c L) (hd : Drawn w w' g) : Rm w0 w' g b2 br A n c L :=
  have h1 := s.low
  have h2 := s.le2
  have h3 := s.ler
  ⟨hd.2, grown_then s.grow hd.1 (.inl rfl), s.low, s.le2, s.ler, s.ne, s.x2.grown hd.1 (by intro e; injection e with e; omega), s.xr.grown hd.1 (by intro e; injection e with e; omega), hd.own s.own s.low, s.far⟩
theorem Rm.other (s : Rm w0 w g b2 br A n c L) {k : Nat} (hg : w.grownBy w' (some k)) (h0 : w0.heap.size ≤ k) (h2 : k ≠ b2) (hr : k ≠ br) (ho : (Value.slice A n c).ownBlock ≠ some k) : Rm w0 w' g b2 br A n c L :=
  have h1 := s.low
  ⟨s.cur.kept hg (fun j hj => by injection hj with hj; omega), grown_then s.grow hg (.inr fun j hj => by injection hj with hj; omega), s.low, s.le2, s.ler, s.ne, s.x2.grown hg (by intro e; injection e with e; exact h2 e), s.xr.grown hg (by intro e; injection e with e; exact hr e), s.own.kept hg (.inr fun e => ho e), s.far⟩
theorem Rm.swap (s : Rm w0 w g b2 br A n c L) {A' : Option Addr} {c' : Nat} {L' : List T2} (ho : w.ownsRow w0.heap.size 28 2 (.slice A' n c') n (L'.flatMap T2.v)) (hf : ∀ j, (Value.slice A' n c').ownBlock = some j → j ≠ b2 ∧ j ≠ br) : Rm w0 (w.setCell ⟨br, 0, none⟩ (.slice A' n c')) g b2 br A' n c' L' := by
  have h1 := s.low
  have h3 := s.ler
  have hg : w.grownBy (w.setCell ⟨br, 0, none⟩ (.slice A' n c')) (some br) := only_setCell (g := br) (p := ⟨br, 0, none⟩) (World.grownBy.refl _ _) (.inl rfl) _
  exact ⟨s.cur.kept hg (fun j hj => by injection hj with hj; omega), grown_then s.grow hg (.inr fun j hj => by injection hj with hj; omega), s.low, s.le2, s.ler, s.ne, s.x2.grown hg (by intro e; injection e with e; exact s.ne e.symm), s.xr.put _, ho.kept hg (.inr fun e => (hf _ e).2 rfl), hf⟩
end
theorem RoomN.mono {m k : Int} {L : List T2} (h : RoomN m L) (hk : m ≤ k) : RoomN k L := ⟨h.1, fun j hj => by have := h.2 j hj; unfold near at *; omega⟩
theorem RoomN.len {m : Int} {L : List T2} (h : RoomN m L) : 3 ≤ L.length ∧ L.length ≤ 10 := ⟨(roomP_of h.1).lo, (roomP_of h.1).hi⟩
/-- What the last loop keeps: all but one box is as it was; the list so far; the point's box. -/
structure Pz (w8 w : World) (b8 bp : Nat) (B : Option Addr) (k d : Nat) (M : List T2) : Prop where
  grow : w8.grownBy w (some b8)
  box : Box w b8 (.slice B k d)
  own : w.ownsRow w8.heap.size 28 2 (.slice B k d) k (M.flatMap T2.v)
  le : w8.heap.size ≤ bp
  low : b8 < w8.heap.size
  far : (Value.slice B k d).ownBlock ≠ some bp
theorem Pz.put {w8 w : World} {b8 bp : Nat} {B : Option Addr} {k d : Nat} {M : List T2} (s : Pz w8 w b8 bp B k d M) (i : Nat) (u : Value) : Pz w8 (w.setCell ⟨bp, i, none⟩ u) b8 bp B k d M := by
  have h1 := s.le
  have h2 := s.low
  have hg : w.grownBy (w.setCell ⟨bp, i, none⟩ u) (some bp) := only_setCell (g := bp) (p := ⟨bp, i, none⟩) (World.grownBy.refl _ _) (.inl rfl) u
  exact ⟨grown_then s.grow hg (.inr fun j hj => by injection hj with hj; omega), s.box.grown hg (by intro e; injection e with e; omega), s.own.kept hg (.inr s.far), s.le, s.low, s.far⟩
theorem Pz.push {w8 w w' : World} {b8 bp : Nat} {B B' : Option Addr} {k d d' : Nat} {M M' : List T2} (s : Pz w8 w b8 bp B k d M) (ho : w'.ownsRow w8.heap.size 28 2 (.slice B' (k + 1) d') (k + 1) (M'.flatMap T2.v)) (hg : w.grownBy w' (Value.slice B k d).ownBlock) :
    Box w' b8 (.slice B k d) ∧ w8.grownBy (w'.setCell ⟨b8, 0, none⟩ (.slice B' (k + 1) d')) (some b8) ∧ Box (w'.setCell ⟨b8, 0, none⟩ (.slice B' (k + 1) d')) b8 (.slice B' (k + 1) d') ∧ (w'.setCell ⟨b8, 0, none⟩ (.slice B' (k + 1) d')).ownsRow w8.heap.size 28 2 (.slice B' (k + 1) d') (k + 1) (M'.flatMap T2.v) := by
  have h2 := s.low
  have hl := s.own.lt
  have hb := s.box.grown hg (fun e => by have := hl _ e; omega)
  have hg2 : w'.grownBy (w'.setCell ⟨b8, 0, none⟩ (.slice B' (k + 1) d')) (some b8) := only_setCell (g := b8) (p := ⟨b8, 0, none⟩) (World.grownBy.refl _ _) (.inl rfl) _
  exact ⟨hb, grown_then (grown_then s.grow hg (.inr fun j hj => (hl j hj).1)) hg2 (.inl rfl), hb.put _, ho.kept hg2 (.inr fun e => by have := (ho.lt _ e).1; omega)⟩
set_option maxRecDepth 100000 in
set_option maxHeartbeats 3200000 in
theorem l04Room_any (g : Nat) (w : World) (hc : Cur w g) : Calls Try.prog 24 #[.pointer (some ⟨g, 0, none⟩)] w fun e w' => ∃ (A : Option Addr) (n c : Nat) (L : List T2), e = .returned (.agg #[.slice A n c]) ∧ L.length = n ∧ RoomN 18 L ∧ w'.ownsRow w.heap.size 28 2 (.slice A n c) n (L.flatMap T2.v) ∧ Drawn w w' g := by
  have hlow := hc.lt
  have HC := hid hc
  clear hc
  go_enter Try.func24, Try.ntmps24
  go_wp2_with fail
  have HX2 := hid (show Box (w.alloc (.cells #[.slice none 0 0] 26)) w.heap.size (.slice none 0 0) from ⟨by go_simp, by go_simp⟩)
  refine (l01Below_any g 8 _ (HC.out.ext (by repeat (first | exact Ext.refl _ | refine Ext.alloc ?_ _ | assumption | refine Ext.over ?_ _ | refine Ext.drew ?_ | refine Ext.drewN ?_ _))) (by omega)).mono ?_
  rintro _ w1 ⟨v, rfl, v0, v1, hd⟩
  have HX2 := hid (HX2.out.grown hd.1 (by intro e; injection e with e; omega))
  have HD1 := hid (Drawn.of_ext (show Ext w _ by repeat (first | exact Ext.refl _ | refine Ext.alloc ?_ _ | assumption | refine Ext.over ?_ _ | refine Ext.drew ?_ | refine Ext.drewN ?_ _)) hd)
  clear hd
  go_wp2_with fail
  refine (l04Shape_any v (by omega) w1).mono ?_
  rintro _ w2 ⟨A, n, L, rfl, hll, hrm, ho, he⟩
  have HRM := hid hrm
  have hb := hrm.len
  rw [hll] at hb
  have HLL := hid hll
  obtain ⟨w3, hw3⟩ : ∃ w3, w3 = w2.alloc (.cells #[.slice A n n] 26) := ⟨_, rfl⟩
  have e3 : Ext w2 w3 := by rw [hw3]; repeat (first | exact Ext.refl _ | refine Ext.alloc ?_ _ | assumption | refine Ext.over ?_ _ | refine Ext.drew ?_ | refine Ext.drewN ?_ _)
  have hs1 : w.heap.size < w1.heap.size := HX2.out.lt
  have hs2 := he.size
  have S := hid (show Rm w w3 g w.heap.size w2.heap.size A n n L from ⟨(HD1.out.2.ext he).ext e3, grown_then (grown_then HD1.out.1 (ext_grown he (some g)) (.inl rfl)) (ext_grown e3 (some g)) (.inl rfl), hlow, Nat.le_refl _, by omega, by omega, (HX2.out.ext he).ext e3, ⟨by rw [hw3]; go_simp, by rw [hw3]; go_simp⟩, own_ext (own_base ho (by omega)) e3, fun j hj => by
    have := ho.lt j hj
    omega⟩)
  clear HD1 HX2 ho he hrm hll v0 v1
  go_wp2_with fail
  rw [← hw3]
  clear hw3 e3
  generalize w2.heap.size = br at S ⊢
  have hxr := S.out.xr.1
  go_wp2_with fail
  refine (l01Below_any g 4 w3 S.out.cur (by omega)).mono ?_
  rintro _ w4 ⟨k0, rfl, v0, v1, hd⟩
  have S4 := hid (S.out.drawn hd)
  obtain ⟨k0, rfl⟩ : ∃ q : Nat, k0 = q := ⟨k0.toNat, by omega⟩
  have hk0 : k0 ≤ 3 := by omega
  have HRM := hid (HRM.out.mono (show (10 : Int) ≤ 16 - 2 * (k0 : Int) by omega))
  clear hd v0 v1 S hxr hs1 hs2
  go_wp2_with fail
  go_loopw [5, 6] (fun kv iv wr => ∃ (k : Nat) (A : Option Addr) (c : Nat) (L : List T2), k ≤ 3 ∧ kv = .int .i64 ↑k ∧ L.length = n ∧ RoomN (16 - 2 * (k : Int)) L ∧ Rm w wr g w.heap.size br A n c L) (fun kv _ _ => (intOf kv).toNat)
  case atStart => exact ⟨k0, A, n, L, hk0, rfl, HLL.out, HRM.out, S4.out⟩
  case round =>
    clear S4 HRM HLL
    obtain ⟨k, A, c, L, hk, rfl, hll, hrm, hs⟩ := hrel
    have HRM := hid hrm
    have HLL := hid hll
    have S := hid hs
    clear hll hrm hs
    by_cases hlt : 0 < k
    · have hkt : (0 : Int) < k := by omega
      go_wp2_with fail
      refine (l01Below_any g n wr S.out.cur (by omega)).mono ?_
      rintro _ w5 ⟨i, rfl, v0, v1, hd⟩
      obtain ⟨i, rfl⟩ : ∃ q : Nat, i = q := ⟨i.toNat, by omega⟩
      have hin : i < n := by omega
      have hin' : (i : Int) < n := by omega
      have S5 := hid (S.out.drawn hd)
      have hxr := S5.out.xr.1
      clear hd v0 v1 S
      go_wp2_with fail
      refine (l04Copy_any A n c L w5 (Row.of_own S5.out.own) HLL.out (by omega) (own_none S5.out.own)).mono ?_
      rintro _ w6 ⟨X, d, rfl, ho, he⟩
      obtain ⟨gx, hX⟩ := own_addr ho (by omega)
      subst hX
      obtain ⟨w7, hw7⟩ : ∃ w7, w7 = w6.alloc (.cells #[.slice (some ⟨gx, 0, none⟩) n d] 26) := ⟨_, rfl⟩
      have e7 : Ext w6 w7 := by rw [hw7]; repeat (first | exact Ext.refl _ | refine Ext.alloc ?_ _ | assumption | refine Ext.over ?_ _ | refine Ext.drew ?_ | refine Ext.drewN ?_ _)
      have hgx := ho.lt gx rfl
      have h5r := S5.out.xr.lt
      have h52 := S5.out.x2.lt
      have h5A := S5.out.own.lt
      have hgr := S5.out.grow.size
      have S7 := hid ((S5.out.ext he).ext e7)
      have HO7 := hid (own_ext ho e7)
      have HXB := hid (show Box w7 w6.heap.size (.slice (some ⟨gx, 0, none⟩) n d) from ⟨by rw [hw7]; go_simp, by rw [hw7]; go_simp⟩)
      obtain ⟨bx, hbx⟩ : ∃ bx, bx = w6.heap.size := ⟨_, rfl⟩
      have h6 := he.size
      have HNE := hid (show w.heap.size ≤ gx ∧ w.heap.size ≤ bx ∧ gx ≠ br ∧ gx ≠ w.heap.size ∧ bx ≠ br ∧ bx ≠ w.heap.size ∧ gx ≠ bx ∧ (Value.slice A n c).ownBlock ≠ some gx ∧ (Value.slice A n c).ownBlock ≠ some bx ∧ gx ≠ g ∧ bx ≠ g by
        have hl := S5.out.low
        refine ⟨by omega, by omega, by omega, by omega, by omega, by omega, by omega, fun e => ?_, fun e => ?_, by omega, by omega⟩
        · have := h5A _ e; omega
        · have := h5A _ e; omega)
      have HLW := hid (show g < w5.heap.size by have := S5.out.low; omega)
      have SZ5 := hid (show w.heap.size ≤ w5.heap.size from hgr)
      clear S5 ho he hgx h5r h52 h5A hgr h6 hxr
      go_wp2_with fail
      rw [← hw7]
      rw [← hbx] at HXB ⊢
      clear hw7 e7 hbx
      have HLOW5 := hid HLW.out
      have HOAL := hid (show L.length = n from HLL.out)
      have HOAN := hid (show ∀ j, j < n → near (16 - 2 * (k : Int) + 0) (at2 L j) from fun j hj => by rw [Int.add_zero]; exact HRM.out.2 j (by rw [HLL.out]; exact hj))
      have HOA := hid HO7.out
      have XBA := hid HXB.out
      have SA := hid S7.out
      clear HO7 HXB S7
      have hxb := XBA.out.1
      have hLi : i < L.length := by rw [HOAL.out]; exact hin
      obtain ⟨bk, off, hB, hc⟩ := (Row.of_own HOA.out).t2 hLi
      cases hB
      obtain ⟨c1, c2⟩ := hc i hLi
      rw [Nat.zero_add] at c1 c2
      have hbg : ¬ bx = g := HNE.out.2.2.2.2.2.2.2.2.2.2
      have hgg : ¬ gx = g := HNE.out.2.2.2.2.2.2.2.2.2.1
      have hnr := HOAN.out i hin
      have hin2 : i < n := hin
      refine wp_region_e (LaterG g g) (laterG_steady _ _) [.q 0, .q 1, .q 2, .q 3, .q 4, .q 5, .q 6, .q 7, .q 8, .q 9, .u 10, .u 11, .u 12, .u 13, .u 14] 15 _ rfl (by kernel_rfl) (by kernel_rfl) (fun w8 e8 => ?_)
      have e8' : Ext w7 w8 := Ext.trans (by repeat (first | exact Ext.refl _ | refine Ext.alloc ?_ _ | assumption | refine Ext.over ?_ _ | refine Ext.drew ?_ | refine Ext.drewN ?_ _)) e8
      have T8 := hid (SA.out.ext e8')
      have HP8 := hid (own_ext HOA.out e8')
      have HB8 := hid (XBA.out.ext e8')
      have c1 := old_cell e8' c1
      have c2 := old_cell e8' c2
      have hxb := HB8.out.1
      clear e8 e8' SA XBA hc
      simp only [pick, List.getElem?_cons_succ, List.getElem?_cons_zero]
      repeat (refine wpE_q (fun K hK => ?_); go_simp; refine hK _ ?_; clear hK K)
      refine wpE_u ?_
      refine stepH_of (fun K hK => ?_)
      go_simp
      refine (l01Below_any g 3 w8 T8.out.cur (by omega)).mono ?_
      rintro _ w9 ⟨v, rfl, v0, v1, hd⟩
      refine ⟨_, rfl, hK _ _ (laterG_of (Kept.grown hd.1)) ?_⟩; clear hK K
      have T9 := hid (T8.out.drawn hd)
      have HP9 := hid (hd.own HP8.out HLOW5.out)
      have HB9 := hid (HB8.out.grown hd.1 (by intro e; injection e with e; exact hbg e.symm))
      clear hd T8 HP8 HB8 c1 c2 hxb
      have hxb := HB9.out.1
      ((first | refine wpE_u ?_ | skip); refine stepH_of (fun K hK => ?_); go_simp; refine hK _ _ (laterG_of (Kept.refl _ _ _)) ?_; clear hK K)
      ((first | refine wpE_u ?_ | skip); refine stepH_of (fun K hK => ?_); go_simp; refine hK _ _ (laterG_of (Kept.refl _ _ _)) ?_; clear hK K)
      ((first | refine wpE_u ?_ | skip); refine stepH_of (fun K hK => ?_); go_simp; refine hK _ _ (laterG_of (Kept.refl _ _ _)) ?_; clear hK K)
      ((first | refine wpE_u ?_ | skip); refine stepH_of (fun K hK => ?_); go_simp; refine hK _ _ (laterG_of (Kept.refl _ _ _)) ?_; clear hK K)
      obtain ⟨u0, o0, f0⟩ := own_some HP9.out (i * 2) (by omega)
      refine wpE_nil (fun K hK => ?_)
      go_simp
      refine hK _ _ ?_; clear hK K
      have hz : IntKind.i64.wrap (IntKind.i64.wrap ((at2 L i).a + v) - 1) = (at2 L i).a + v - 1 := by
        have := hnr; unfold near at this
        rw [IntWalk.i64_in ((at2 L i).a + v) (by omega), IntWalk.i64_in _ (by omega)]
      rw [hz]
      have hst := HP9.out.stored (i * 2) (.int .i64 ((at2 L i).a + v - 1))
      obtain ⟨w10, hw10⟩ : ∃ w10, w10 = w9.setCell ⟨gx, i * 2, none⟩ (.int .i64 ((at2 L i).a + v - 1)) := ⟨_, rfl⟩
      rw [← hw10] at hst ⊢
      have SB := hid (T9.out.other hst.2 HNE.out.1 HNE.out.2.2.2.1 HNE.out.2.2.1 HNE.out.2.2.2.2.2.2.2.1)
      obtain ⟨LB, hLB⟩ : ∃ l, l = L.set i ⟨(at2 L i).a + v - 1, (at2 L i).b⟩ := ⟨_, rfl⟩
      have HOB := hid (show w10.ownsRow w5.heap.size 28 2 (.slice (some ⟨gx, 0, none⟩) n d) n (LB.flatMap T2.v) by rw [hLB, ← flat_set0 _ hLi]; exact hst.1)
      have HOBL := hid (show LB.length = n by rw [hLB, List.length_set]; exact HOAL.out)
      have HOBN := hid (show ∀ j, j < n → near (16 - 2 * (k : Int) + 1) (at2 LB j) from fun j hj => by
        rw [hLB, at2_set hLi]
        have hx := HOAN.out j hj
        unfold near at hx hnr ⊢
        split
        · rename_i e; subst e; dsimp only; omega
        · omega)
      have XBB := hid (HB9.out.grown hst.2 (by intro e; injection e with e; exact HNE.out.2.2.2.2.2.2.1 e))
      clear hst hw10 hz T9 HP9 HB9 f0 o0 hLB hnr v0 v1 HOA HOAL HOAN hxb hLi
      have hxb := XBB.out.1
      go_wp2_with fail
      rename World => w7b
      have hxb := XBB.out.1
      have hLi : i < LB.length := by rw [HOBL.out]; exact hin
      obtain ⟨bk, off, hB, hc⟩ := (Row.of_own HOB.out).t2 hLi
      cases hB
      obtain ⟨c1, c2⟩ := hc i hLi
      rw [Nat.zero_add] at c1 c2
      have hbg : ¬ bx = g := HNE.out.2.2.2.2.2.2.2.2.2.2
      have hgg : ¬ gx = g := HNE.out.2.2.2.2.2.2.2.2.2.1
      have hnr := HOBN.out i hin
      have hin2 : i < n := hin
      refine wp_region_e (LaterG g g) (laterG_steady _ _) [.q 0, .q 1, .q 2, .q 3, .q 4, .q 5, .q 6, .q 7, .q 8, .q 9, .u 10, .u 11, .u 12, .u 13, .u 14] 15 _ rfl (by kernel_rfl) (by kernel_rfl) (fun w8 e8 => ?_)
      have e8' : Ext w7b w8 := Ext.trans (by repeat (first | exact Ext.refl _ | refine Ext.alloc ?_ _ | assumption | refine Ext.over ?_ _ | refine Ext.drew ?_ | refine Ext.drewN ?_ _)) e8
      have T8 := hid (SB.out.ext e8')
      have HP8 := hid (own_ext HOB.out e8')
      have HB8 := hid (XBB.out.ext e8')
      have c1 := old_cell e8' c1
      have c2 := old_cell e8' c2
      have hxb := HB8.out.1
      clear e8 e8' SB XBB hc
      simp only [pick, List.getElem?_cons_succ, List.getElem?_cons_zero]
      repeat (refine wpE_q (fun K hK => ?_); go_simp; refine hK _ ?_; clear hK K)
      refine wpE_u ?_
      refine stepH_of (fun K hK => ?_)
      go_simp
      refine (l01Below_any g 3 w8 T8.out.cur (by omega)).mono ?_
      rintro _ w9 ⟨v, rfl, v0, v1, hd⟩
      refine ⟨_, rfl, hK _ _ (laterG_of (Kept.grown hd.1)) ?_⟩; clear hK K
      have T9 := hid (T8.out.drawn hd)
      have HP9 := hid (hd.own HP8.out HLOW5.out)
      have HB9 := hid (HB8.out.grown hd.1 (by intro e; injection e with e; exact hbg e.symm))
      clear hd T8 HP8 HB8 c1 c2 hxb
      have hxb := HB9.out.1
      ((first | refine wpE_u ?_ | skip); refine stepH_of (fun K hK => ?_); go_simp; refine hK _ _ (laterG_of (Kept.refl _ _ _)) ?_; clear hK K)
      ((first | refine wpE_u ?_ | skip); refine stepH_of (fun K hK => ?_); go_simp; refine hK _ _ (laterG_of (Kept.refl _ _ _)) ?_; clear hK K)
      ((first | refine wpE_u ?_ | skip); refine stepH_of (fun K hK => ?_); go_simp; refine hK _ _ (laterG_of (Kept.refl _ _ _)) ?_; clear hK K)
      ((first | refine wpE_u ?_ | skip); refine stepH_of (fun K hK => ?_); go_simp; refine hK _ _ (laterG_of (Kept.refl _ _ _)) ?_; clear hK K)
      obtain ⟨u0, o0, f0⟩ := own_some HP9.out (i * 2 + 1) (by omega)
      refine wpE_nil (fun K hK => ?_)
      go_simp
      refine hK _ _ ?_; clear hK K
      have hz : IntKind.i64.wrap (IntKind.i64.wrap ((at2 LB i).b + v) - 1) = (at2 LB i).b + v - 1 := by
        have := hnr; unfold near at this
        rw [IntWalk.i64_in ((at2 LB i).b + v) (by omega), IntWalk.i64_in _ (by omega)]
      rw [hz]
      have hst := HP9.out.stored (i * 2 + 1) (.int .i64 ((at2 LB i).b + v - 1))
      obtain ⟨w10, hw10⟩ : ∃ w10, w10 = w9.setCell ⟨gx, i * 2 + 1, none⟩ (.int .i64 ((at2 LB i).b + v - 1)) := ⟨_, rfl⟩
      rw [← hw10] at hst ⊢
      have SC := hid (T9.out.other hst.2 HNE.out.1 HNE.out.2.2.2.1 HNE.out.2.2.1 HNE.out.2.2.2.2.2.2.2.1)
      obtain ⟨LC, hLC⟩ : ∃ l, l = LB.set i ⟨(at2 LB i).a, (at2 LB i).b + v - 1⟩ := ⟨_, rfl⟩
      have HOC := hid (show w10.ownsRow w5.heap.size 28 2 (.slice (some ⟨gx, 0, none⟩) n d) n (LC.flatMap T2.v) by rw [hLC, ← flat_set1 _ hLi]; exact hst.1)
      have HOCL := hid (show LC.length = n by rw [hLC, List.length_set]; exact HOBL.out)
      have HOCN := hid (show ∀ j, j < n → near (16 - 2 * (k : Int) + 2) (at2 LC j) from fun j hj => by
        rw [hLC, at2_set hLi]
        have hx := HOBN.out j hj
        unfold near at hx hnr ⊢
        split
        · rename_i e; subst e; dsimp only; omega
        · omega)
      have XBC := hid (HB9.out.grown hst.2 (by intro e; injection e with e; exact HNE.out.2.2.2.2.2.2.1 e))
      clear hst hw10 hz T9 HP9 HB9 f0 o0 hLC hnr v0 v1 HOB HOBL HOBN hxb hLi
      have hxb := XBC.out.1
      go_wp2_with fail
      rename World => w7c
      have hkk : ((k : Int) - 1) = ((k - 1 : Nat) : Int) := by omega
      cases hr2 : roomS LC
      · refine (gives_b hr2 (sRoomOk_any (some ⟨gx, 0, none⟩) n d LC _ ((Row.of_own HOC.out).ext (by repeat (first | exact Ext.refl _ | refine Ext.alloc ?_ _ | assumption | refine Ext.over ?_ _ | refine Ext.drew ?_ | refine Ext.drewN ?_ _))) HOCL.out (by omega))).mono ?_
        rintro _ w12 ⟨rfl, e12⟩
        have SD := hid (SC.out.ext e12)
        clear e12
        go_wp2_with fail
        go_roundw
        case rel => exact ⟨k - 1, A, c, L, by omega, by first | go_num | (rw [hkk]), HLL.out, HRM.out.mono (by omega), SD.out.ext (by repeat (first | exact Ext.refl _ | refine Ext.alloc ?_ _ | assumption | refine Ext.over ?_ _ | refine Ext.drew ?_ | refine Ext.drewN ?_ _))⟩
        case measure => simp [intOf]; omega
      · have HR2 := hid (show RoomN (16 - 2 * ((k - 1 : Nat) : Int)) LC from ⟨hr2, fun j hj => by have := HOCN.out j (by rw [← HOCL.out]; exact hj); unfold near at this ⊢; omega⟩)
        refine (gives_b hr2 (sRoomOk_any (some ⟨gx, 0, none⟩) n d LC _ ((Row.of_own HOC.out).ext (by repeat (first | exact Ext.refl _ | refine Ext.alloc ?_ _ | assumption | refine Ext.over ?_ _ | refine Ext.drew ?_ | refine Ext.drewN ?_ _))) HOCL.out (by omega))).mono ?_
        rintro _ w12 ⟨rfl, e12⟩
        have SD := hid (SC.out.ext e12)
        have XBD := hid (XBC.out.ext e12)
        have HOD := hid (own_ext HOC.out e12)
        have hxb := XBD.out.1
        have hxr := SD.out.xr.1
        have hfr := SD.out.xr.2
        clear e12 SC XBC HOC
        go_wp2_with fail
        have SE := hid (SD.out.swap (own_base HOD.out SZ5.out) (fun j hj => by
          have hj' : gx = j := by injection hj
          rw [← hj']; exact ⟨HNE.out.2.2.2.1, HNE.out.2.2.1⟩))
        go_roundw
        case rel => exact ⟨k - 1, some ⟨gx, 0, none⟩, d, LC, by omega, by first | go_num | (rw [hkk]), HOCL.out, HR2.out, SE.out.ext (by repeat (first | exact Ext.refl _ | refine Ext.alloc ?_ _ | assumption | refine Ext.over ?_ _ | refine Ext.drew ?_ | refine Ext.drewN ?_ _))⟩
        case measure => simp [intOf]; omega
    · obtain rfl : k = 0 := by omega
      have HRM2 := hid (show RoomN 16 L from HRM.out.mono (by omega))
      have hn10 : n ≤ 10 := hb.2
      have hn3 : 3 ≤ n := hb.1
      go_wp2_with fail
      obtain ⟨w5, hw5⟩ : ∃ w5, w5 = wr.alloc (.cells #[.slice none 0 0] 26) := ⟨_, rfl⟩
      have e5 : Ext wr w5 := by rw [hw5]; repeat (first | exact Ext.refl _ | refine Ext.alloc ?_ _ | assumption | refine Ext.over ?_ _ | refine Ext.drew ?_ | refine Ext.drewN ?_ _)
      have S5 := hid (S.out.ext e5)
      have HB5 := hid (show Box w5 wr.heap.size (.slice none 0 0) from ⟨by rw [hw5]; go_simp, by rw [hw5]; go_simp⟩)
      have h1 := S.out.xr.lt
      have h2 := S.out.x2.lt
      have h3 := S.out.own.lt
      have h4 := S.out.grow.size
      have h5 := S.out.low
      have HNE := hid (show w.heap.size ≤ wr.heap.size ∧ wr.heap.size ≠ br ∧ wr.heap.size ≠ w.heap.size ∧ (Value.slice A n c).ownBlock ≠ some wr.heap.size ∧ wr.heap.size ≠ g from ⟨h4, by omega, by omega, fun e => by have := h3 _ e; omega, by omega⟩)
      rw [← hw5]
      clear hw5 e5 S h1 h2 h3 h4 h5 HRM
      generalize wr.heap.size = b8 at HB5 HNE ⊢
      refine (l01Below_any g 4 w5 S5.out.cur (by omega)).mono ?_
      rintro _ w6 ⟨t, rfl, t0, t1, hd⟩
      have S6 := hid (S5.out.drawn hd)
      have HB6 := hid (HB5.out.grown hd.1 (by intro e; injection e with e; exact HNE.out.2.2.2.2 e.symm))
      clear hd S5 HB5
      go_wp2_with fail
      refine (l01Below_any g n w6 S6.out.cur (by omega)).mono ?_
      rintro _ w7 ⟨f, rfl, v0, v1, hd⟩
      obtain ⟨f, rfl⟩ : ∃ q : Nat, f = q := ⟨f.toNat, by omega⟩
      have hfn : f < n := by omega
      have S7 := hid (S6.out.drawn hd)
      have HB7 := hid (HB6.out.grown hd.1 (by intro e; injection e with e; exact HNE.out.2.2.2.2 e.symm))
      clear hd S6 HB6 v0 v1
      go_wp2_with fail
      refine (l01Below_any g 5 w7 S7.out.cur (by omega)).mono ?_
      rintro _ w8 ⟨u, rfl, v0, v1, hd⟩
      have S8 := hid (S7.out.drawn hd)
      have HB8 := hid (HB7.out.grown hd.1 (by intro e; injection e with e; exact HNE.out.2.2.2.2 e.symm))
      clear hd S7 HB7
      obtain ⟨dx, hdx⟩ : ∃ dx, dx = u - 2 := ⟨_, rfl⟩
      have hwd : wrap64 (u - 2) = dx := by rw [hdx]; exact IntWalk.wrap64_in _ (by omega)
      have hdx2 : -2 ≤ dx ∧ dx ≤ 2 := by omega
      have hb8 := HB8.out.lt
      have HSP := hid (room_spun (f := f) (t := t) HRM2.out.1 (by rw [HLL.out]; exact hfn) hdx2 (fun k hk => HRM2.out.2 k hk))
      go_wp2_with fail
      rw [show u - 2 = dx from hdx.symm]
      clear hwd v0 v1 hdx
      go_loopw [12] (fun kv wz => ∃ (k : Nat) (B : Option Addr) (d : Nat), k ≤ n ∧ kv = .int .i64 ↑k ∧ w8.grownBy wz (some b8) ∧ Box wz b8 (.slice B k d) ∧ wz.ownsRow w8.heap.size 28 2 (.slice B k d) k (((spun L f t dx).take k).flatMap T2.v)) (fun kv _ => n - (intOf kv).toNat)
      case atStart => exact ⟨0, none, 0, by omega, rfl, World.grownBy.refl _ _, HB8.out, World.ownsRow_nil _ _ _ _⟩
      case round =>
        rename World => wz
        obtain ⟨k, B, d, hk, rfl, hg, hbx, hown⟩ := hrel
        have HG := hid hg
        have HBX := hid hbx
        have HO := hid hown
        have HA := hid (S8.out.own.kept hg (.inr fun e => HNE.out.2.2.2.1 e))
        have HXR := hid (S8.out.xr.grown hg (by intro e; injection e with e; exact HNE.out.2.1 e))
        have hxr := HXR.out.1
        have hb8z := HBX.out.lt
        clear hg hbx hown
        by_cases hlt : k < n
        · have hkt : (k : Int) < n := by omega
          obtain ⟨m, hm⟩ : ∃ m, m = (f + k) % n := ⟨_, rfl⟩
          have hmn : m < n := by rw [hm]; exact Nat.mod_lt _ (by omega)
          have hmt : (m : Int) < n := by omega
          have hwf : IntKind.i64.wrap ((f : Int) + k) = (f : Int) + k := IntWalk.i64_in _ (by omega)
          have hmod : ((f : Int) + k).tmod n = (m : Int) := by rw [Int.tmod_eq_emod_of_nonneg (by omega), hm, Int.natCast_emod]; rfl
          have hmod2 : ((f : Int) + k) % n = (m : Int) := by rw [hm, Int.natCast_emod]; rfl
          have hwm : IntKind.i64.wrap (m : Int) = (m : Int) := IntWalk.i64_in _ (by omega)
          have hnz : ¬ n = 0 := by omega
          have hnz2 : ¬ (n : Int) = 0 := by omega
          have hn0 : ((n : Int) == 0) = false := by rw [beq_eq_false_iff_ne]; omega
          obtain ⟨bk, off, hB, hc⟩ := (Row.of_own HA.out).t2 (i := m) (by rw [HLL.out]; exact hmn)
          obtain ⟨c1, c2⟩ := hc m (by rw [HLL.out]; exact hmn)
          have HSA := hid (show at2 (spun L f t dx) k = moveT t dx (at2 L m) by rw [spun_at (by rw [HLL.out]; exact hlt), HLL.out, hm]; rfl)
          have hnr := HRM2.out.2 m (by rw [HLL.out]; exact hmn)
          have hTK := hid (show (spun L f t dx).take (k + 1) = (spun L f t dx).take k ++ [at2 (spun L f t dx) k] by rw [List.take_add_one, List.getElem?_eq_getElem (by rw [spun_len, HLL.out]; exact hlt), Option.toList_some, at2_eq _ _ (by rw [spun_len, HLL.out]; exact hlt)])
          subst hB
          clear hc hm
          rw [HSA.out] at hTK
          generalize at2 L m = p at c1 c2 hTK hnr
          go_wp2_with fail
          refine wp_region_x [.q 0, .q 1, .q 2, .q 3, .q 4, .q 5, .q 6, .q 7, .q 8, .u 9, .u 10] (by kernel_rfl) (by kernel_rfl) (fun w9 e9 => ?_)
          have e9' : Ext wz w9 := Ext.trans (by repeat (first | exact Ext.refl _ | refine Ext.alloc ?_ _ | assumption | refine Ext.over ?_ _ | refine Ext.drew ?_ | refine Ext.drewN ?_ _)) e9
          have HG9 := hid (grown_then HG.out (ext_grown e9' (some b8)) (.inl rfl))
          have HB9 := hid (HBX.out.ext e9')
          have HO9 := hid (own_ext HO.out e9')
          have c1 := old_cell e9' c1
          have c2 := old_cell e9' c2
          have hxr := old_cell e9' hxr
          clear e9 e9' HG HBX HO HA HXR
          simp only [pick, List.getElem?_cons_succ, List.getElem?_cons_zero]
          repeat (refine wpZ_q (fun K hK => ?_); go_simp; refine hK _ ?_; clear hK K)
          refine wpZ_u ?_
          refine stepH_of (fun K hK => ?_)
          go_simp
          refine hK _ _ (Below.alloc (Below.refl _ _) (Nat.le_refl _) _) ?_; clear hK K
          refine wpZ_u ?_
          refine stepH_of (fun K hK => ?_)
          go_simp
          refine hK _ _ (below_again (Nat.le_refl _) _ _) ?_; clear hK K
          refine wpZ_nil ?_
          have hsz9 := HO9.out.lt
          have hb9 := HB9.out.lt
          obtain ⟨wp, hwp⟩ : ∃ wp, wp = w9.alloc (.cells #[.int .i64 p.a, .int .i64 p.b] 28) := ⟨_, rfl⟩
          have ep : Ext w9 wp := by rw [hwp]; repeat (first | exact Ext.refl _ | refine Ext.alloc ?_ _ | assumption | refine Ext.over ?_ _ | refine Ext.drew ?_ | refine Ext.drewN ?_ _)
          have p0 : wp.cell? ⟨w9.heap.size, 0, none⟩ = some (.int .i64 p.a) := by rw [hwp]; go_simp
          have p1 : wp.cell? ⟨w9.heap.size, 1, none⟩ = some (.int .i64 p.b) := by rw [hwp]; go_simp
          have q0 : wp.frozen? ⟨w9.heap.size, 0, none⟩ = false := by rw [hwp]; go_simp
          have q1 : wp.frozen? ⟨w9.heap.size, 1, none⟩ = false := by rw [hwp]; go_simp
          have HGP := hid (grown_then HG9.out (ext_grown ep (some b8)) (.inl rfl))
          have HBP := hid (HB9.out.ext ep)
          have HOP := hid (own_ext HO9.out ep)
          have HNP := hid (show w8.heap.size ≤ w9.heap.size ∧ b8 ≠ w9.heap.size ∧ (Value.slice B k d).ownBlock ≠ some w9.heap.size from ⟨HG9.out.size, by omega, fun e => by have := hsz9 _ e; omega⟩)
          rw [← hwp]
          generalize w9.heap.size = bp at *
          clear hwp ep HG9 HB9 HO9 hsz9 hb9 c1 c2 hxr
          have hxb := HBP.out.1
          have hfb := HBP.out.2
          have HPZ := hid (show Pz w8 wp b8 bp B k d ((spun L f t dx).take k) from ⟨HGP.out, HBP.out, HOP.out, HNP.out.1, hb8, HNP.out.2.2⟩)
          have hne8 : ¬ b8 = bp := HNP.out.2.1
          have hne9 : ¬ bp = b8 := fun e => hne8 e.symm
          have hk9 : k ≤ 10 := by omega
          unfold near at hnr
          by_cases ht1 : t = 1
          · subst ht1
            have HQ := hid (((HPZ.out.put 0 (.int .i64 (-p.b))).put 1 (.int .i64 (p.a))).put 0 (.int .i64 (-p.b + dx)))
            have hmv : moveT 1 dx p = ⟨-p.b + dx, p.a⟩ := by unfold moveT; rw [if_pos rfl]
            rw [hmv] at hTK
            have HTK := hid hTK
            clear hTK hmv HPZ
            go_wp2_with (at_builtin; refine wpList_pushG rfl (.tmp 111) (.tmp 113) 24 rfl 28 Try.underlying24 info_PointR rfl (by decide) w8.heap.size B k d (((spun L f 1 dx).take k).flatMap T2.v) rfl (((wp.setCell ⟨bp, 0, none⟩ (.int .i64 (-p.b))).setCell ⟨bp, 1, none⟩ (.int .i64 (p.a))).setCell ⟨bp, 0, none⟩ (.int .i64 (-p.b + dx))) HQ.out.own (by repeat (first | exact Ext.refl _ | refine Ext.alloc ?_ _ | assumption | refine Ext.over ?_ _ | refine Ext.drew ?_ | refine Ext.drewN ?_ _)) HQ.out.grow.size _ 1 1 [.int .i64 (-p.b + dx), .int .i64 (p.a)] rfl rfl (lit_cells _ _ (by first | (simp; done) | simp [ovr_size]) _ _) (by intro z hz; simp at hz; rcases hz with rfl | rfl <;> rfl) (by omega) (by decide) ?_)
            intro B2 d2 w10 hown hgr
            have HF := hid (HQ.out.push (B' := B2) (d' := d2) (M' := (spun L f 1 dx).take (k + 1)) (by rw [HTK.out, List.flatMap_append]; exact hown) hgr)
            have hxb := HF.out.1.1
            have hfb := HF.out.1.2
            clear hown hgr HQ
            go_wp2_with fail
            go_roundw
            case rel => exact ⟨k + 1, B2, d2, by omega, by go_num, HF.out.2.1, HF.out.2.2.1, HF.out.2.2.2⟩
            case measure => simp [intOf]; omega
          by_cases ht2 : t = 2
          · subst ht2
            have HQ := hid (((HPZ.out.put 0 (.int .i64 (-p.a))).put 1 (.int .i64 (-p.b))).put 0 (.int .i64 (-p.a + dx)))
            have hmv : moveT 2 dx p = ⟨-p.a + dx, -p.b⟩ := by unfold moveT; rw [if_neg (by decide), if_pos rfl]
            rw [hmv] at hTK
            have HTK := hid hTK
            clear hTK hmv HPZ
            go_wp2_with (at_builtin; refine wpList_pushG rfl (.tmp 111) (.tmp 113) 24 rfl 28 Try.underlying24 info_PointR rfl (by decide) w8.heap.size B k d (((spun L f 2 dx).take k).flatMap T2.v) rfl (((wp.setCell ⟨bp, 0, none⟩ (.int .i64 (-p.a))).setCell ⟨bp, 1, none⟩ (.int .i64 (-p.b))).setCell ⟨bp, 0, none⟩ (.int .i64 (-p.a + dx))) HQ.out.own (by repeat (first | exact Ext.refl _ | refine Ext.alloc ?_ _ | assumption | refine Ext.over ?_ _ | refine Ext.drew ?_ | refine Ext.drewN ?_ _)) HQ.out.grow.size _ 1 1 [.int .i64 (-p.a + dx), .int .i64 (-p.b)] rfl rfl (lit_cells _ _ (by first | (simp; done) | simp [ovr_size]) _ _) (by intro z hz; simp at hz; rcases hz with rfl | rfl <;> rfl) (by omega) (by decide) ?_)
            intro B2 d2 w10 hown hgr
            have HF := hid (HQ.out.push (B' := B2) (d' := d2) (M' := (spun L f 2 dx).take (k + 1)) (by rw [HTK.out, List.flatMap_append]; exact hown) hgr)
            have hxb := HF.out.1.1
            have hfb := HF.out.1.2
            clear hown hgr HQ
            go_wp2_with fail
            go_roundw
            case rel => exact ⟨k + 1, B2, d2, by omega, by go_num, HF.out.2.1, HF.out.2.2.1, HF.out.2.2.2⟩
            case measure => simp [intOf]; omega
          · have ht3 : (t == 2) = false := beq_eq_false_iff_ne.2 ht2
            have ht4 : (t == 1) = false := beq_eq_false_iff_ne.2 ht1
            have HQ := hid (HPZ.out.put 0 (.int .i64 (p.a + dx)))
            have hmv : moveT t dx p = ⟨p.a + dx, p.b⟩ := by unfold moveT; rw [if_neg ht1, if_neg ht2]
            rw [hmv] at hTK
            have HTK := hid hTK
            clear hTK hmv HPZ
            go_wp2_with (at_builtin; refine wpList_pushG rfl (.tmp 111) (.tmp 113) 24 rfl 28 Try.underlying24 info_PointR rfl (by decide) w8.heap.size B k d (((spun L f t dx).take k).flatMap T2.v) rfl (wp.setCell ⟨bp, 0, none⟩ (.int .i64 (p.a + dx))) HQ.out.own (by repeat (first | exact Ext.refl _ | refine Ext.alloc ?_ _ | assumption | refine Ext.over ?_ _ | refine Ext.drew ?_ | refine Ext.drewN ?_ _)) HQ.out.grow.size _ 1 1 [.int .i64 (p.a + dx), .int .i64 (p.b)] rfl rfl (lit_cells _ _ (by first | (simp; done) | simp [ovr_size]) _ _) (by intro z hz; simp at hz; rcases hz with rfl | rfl <;> rfl) (by omega) (by decide) ?_)
            intro B2 d2 w10 hown hgr
            have HF := hid (HQ.out.push (B' := B2) (d' := d2) (M' := (spun L f t dx).take (k + 1)) (by rw [HTK.out, List.flatMap_append]; exact hown) hgr)
            have hxb := HF.out.1.1
            have hfb := HF.out.1.2
            clear hown hgr HQ
            go_wp2_with fail
            go_roundw
            case rel => exact ⟨k + 1, B2, d2, by omega, by go_num, HF.out.2.1, HF.out.2.2.1, HF.out.2.2.2⟩
            case measure => simp [intOf]; omega
        · obtain rfl : k = n := by omega
          have hkt : ¬ (k : Int) < k := by omega
          have S9 := hid HG.out
          have h2r := HNE.out
          have hx2 := S8.out.x2.grown HG.out (by intro e; injection e with e; exact h2r.2.2.1 e)
          have hx2c := hx2.1
          have hx2f := hx2.2
          have hxb := HBX.out.1
          have h1 := S8.out.low
          have HLN := hid (show (spun L f t dx).take k = spun L f t dx by rw [List.take_of_length_le (by rw [spun_len, HLL.out]; exact Nat.le_refl _)])
          have HGG := hid (grown_then S8.out.grow HG.out (.inr fun j hj => by injection hj with hj; have := h2r.1; omega))
          have HCU := hid (S8.out.cur.kept HG.out (fun j hj => by injection hj with hj; have := h2r.1; omega))
          have hs8 := S8.out.grow.size
          clear h2r
          go_wp2_with fail
          refine bodyPost_ret (v := .agg #[.slice B k d]) (by first | (simp [results, Try.results24, go_sem, hx2c]; done) | (unfold results; rw [Try.results24]; go_simp)) rfl ?_
          have hg2 : wz.grownBy (wz.setCell ⟨w.heap.size, 0, none⟩ (.slice B k d)) (some w.heap.size) := only_setCell (g := w.heap.size) (p := ⟨w.heap.size, 0, none⟩) (World.grownBy.refl _ _) (.inl rfl) _
          refine ⟨B, k, d, rfl, spun L f t dx, by rw [spun_len]; exact HLL.out, ⟨HSP.out.1, HSP.out.2⟩, ?_, grown_then HGG.out hg2 (.inr fun j hj => by injection hj with hj; omega), HCU.out.kept hg2 (fun j hj => by injection hj with hj; omega)⟩
          have := HO.out
          rw [HLN.out] at this
          have h6 := S8.out.x2.lt
          exact own_base (this.kept hg2 (.inr fun e => by have := (HO.out.lt _ e).1; omega)) hs8
end Go.Proofs.Ytelmpiaaaffmlaa
/- Walks: points of floors and cameras are drawn. Conditions: sizes. -/
namespace Go.Proofs.Ytelmpiaaaffmlaa
open Go.RowKit
set_option linter.unusedVariables false

theorem floor_ne' {L : List T2} (hr : roomS L = true) : 0 < (floorL L).length := List.length_pos_of_mem (corner_floor hr (k := 0) (by have := (roomP_of hr).lo; omega))
set_option maxRecDepth 100000 in
set_option maxHeartbeats 1600000 in
theorem l08Point_any (g : Nat) (A : Option Addr) (n c : Nat) (L : List T2) (w : World) (hc : Cur w g) (hl : Row w A (L.flatMap T2.v)) (hn : L.length = n) (hro : roomS L = true) : Calls Try.prog 25 #[.pointer (some ⟨g, 0, none⟩), .agg #[.slice A n c]] w fun e w' => ∃ p : T2, e = .returned (.agg #[.int .i64 p.a, .int .i64 p.b]) ∧ p ∈ floorL L ∧ Drawn w w' g := by
  have hlow := hc.lt
  have HC := hid hc
  have HL := hid hl
  have hx : n ≤ 1048577 := by have := (roomP_of hro).hi; omega
  have HFR := hid (show floorR L = floorL L by unfold floorR; rw [hro]; rfl)
  have hfl := floor_len hro
  have hf0 := floor_ne' hro
  clear hc hl
  go_enter Try.func25, Try.ntmps25
  go_wp2_with fail
  refine (sFloor_any A n c L _ (HL.out.ext (by repeat (first | exact Ext.refl _ | refine Ext.alloc ?_ _ | assumption | refine Ext.over ?_ _ | refine Ext.drew ?_ | refine Ext.drewN ?_ _))) hn hx).mono ?_
  rintro _ w1 ⟨D, q, c1, rfl, ho, he⟩
  rw [HFR.out] at ho
  have hq := own_len2 ho
  have HB := hid (show w1.cell? ⟨w.heap.size + 1, 0, none⟩ = some (.int .i64 0) ∧ w1.cell? ⟨w.heap.size + 1, 1, none⟩ = some (.int .i64 0) ∧ w1.frozen? ⟨w.heap.size + 1, 0, none⟩ = false ∧ w1.frozen? ⟨w.heap.size + 1, 1, none⟩ = false from
    ⟨old_cell he (by go_simp), old_cell he (by go_simp), (Below.frozen he (by simp)).trans (by go_simp), (Below.frozen he (by simp)).trans (by go_simp)⟩)
  have HE := hid (Ext.trans (show Ext w _ by repeat (first | exact Ext.refl _ | refine Ext.alloc ?_ _ | assumption | refine Ext.over ?_ _ | refine Ext.drew ?_ | refine Ext.drewN ?_ _)) he)
  have hs1 : w.heap.size + 2 ≤ w1.heap.size := by have := he.size; simp at this; omega
  have HO := hid (own_base (base' := w.heap.size) ho (by simp; omega))
  clear ho he
  generalize hF : floorL L = F at *
  subst hq
  have hq0 : ((F.length : Int) == 0) = false := by rw [beq_eq_false_iff_ne]; omega
  have hqn : ¬ F.length = 0 := by omega
  go_wp2_with fail
  refine (l01BelowB_any g F.length w1 (HC.out.ext HE.out) (by omega) (by omega)).mono ?_
  rintro _ w2 ⟨v, rfl, v0, v1, hd⟩
  obtain ⟨k, rfl⟩ : ∃ k : Nat, v = k := ⟨v.toNat, by omega⟩
  have hk : k < F.length := by omega
  have hk' : (k : Int) < F.length := by omega
  have b2 : w2.heap[w.heap.size + 1]? = w1.heap[w.heap.size + 1]? := hd.1.block _ (by omega) (by intro e; injection e with e; omega)
  have p0 := (World.cell?_of_block (a := ⟨w.heap.size + 1, 0, none⟩) b2).trans HB.out.1
  have p1 := (World.cell?_of_block (a := ⟨w.heap.size + 1, 1, none⟩) b2).trans HB.out.2.1
  have q0 := (World.frozen?_of_block (a := ⟨w.heap.size + 1, 0, none⟩) b2).trans HB.out.2.2.1
  have q1 := (World.frozen?_of_block (a := ⟨w.heap.size + 1, 1, none⟩) b2).trans HB.out.2.2.2
  obtain ⟨bk, off, hB, hc⟩ := (Row.of_own (hd.own HO.out hlow)).t2 hk
  obtain ⟨c1, c2⟩ := hc k hk
  have HD := hid (Drawn.of_ext HE.out hd)
  have HM := hid (show at2 F k ∈ F by rw [at2_eq _ _ hk]; exact List.getElem_mem hk)
  subst hB
  clear hd hc b2 HB
  go_wp2_with fail
  refine bodyPost_ret (v := .agg #[.int .i64 (at2 F k).a, .int .i64 (at2 F k).b]) (by first | (simp [results, Try.results25, go_sem, p0, p1]; done) | (unfold results; rw [Try.results25]; go_simp)) rfl ?_
  exact ⟨at2 F k, rfl, by rw [hF]; exact HM.out, (HD.out.setc (by omega) hlow _).setc (by omega) hlow _⟩
/-- A drawn camera at a point. -/
def CamD (p : T2) (x : T7) : Prop := (x.a = p.a ∧ x.b = p.b) ∧ ((-2 ≤ x.c - x.a ∧ x.c - x.a ≤ 2) ∧ (-2 ≤ x.d - x.b ∧ x.d - x.b ≤ 2) ∧ (-3 ≤ x.e - x.a ∧ x.e - x.a ≤ 3) ∧ (-3 ≤ x.f - x.b ∧ x.f - x.b ≤ 3)) ∧ 0 < (x.c - x.a) * (x.f - x.b) - (x.d - x.b) * (x.e - x.a) ∧ (1 ≤ x.g ∧ x.g ≤ 9)
def tabX (k : Nat) : Int := atI [1, 1, 0, -1, 0, 2] k
def tabY (k : Nat) : Int := atI [0, 1, 1, 0, -1, 1] k
def tabU (k : Nat) : Int := atI [0, -1, -1, 0, 1, -1] k
def tabV (k : Nat) : Int := atI [1, 1, 0, -1, 0, 3] k
theorem tab_ok (k : Nat) (hk : k < 6) : (-2 ≤ tabX k ∧ tabX k ≤ 2) ∧ (-2 ≤ tabY k ∧ tabY k ≤ 2) ∧ (-3 ≤ tabU k ∧ tabU k ≤ 3) ∧ (-3 ≤ tabV k ∧ tabV k ≤ 3) ∧ 0 < tabX k * tabV k - tabY k * tabU k := by
  rcases (show k = 0 ∨ k = 1 ∨ k = 2 ∨ k = 3 ∨ k = 4 ∨ k = 5 by omega) with rfl | rfl | rfl | rfl | rfl | rfl <;> decide
theorem lit_at {w w' : World} {b : Nat} {l : List Int} {t : TypeId} (hb : b = w.heap.size) (he : Ext (w.alloc (.cells (l.map (Value.int .i64)).toArray t)) w') {k : Nat} (hk : k < l.length) : w'.cell? ⟨b, k, none⟩ = some (.int .i64 (atI l k)) := by
  subst hb
  refine old_cell he ?_
  rw [World.cell?_alloc_new]
  simp only [List.getElem?_toArray, List.getElem?_map, List.getElem?_eq_getElem hk, Option.map_some, atI_eq _ _ hk]
set_option maxRecDepth 100000 in
set_option maxHeartbeats 3200000 in
theorem l25Camera_any (g : Nat) (p : T2) (w : World) (hc : Cur w g) (hp : near 18 p) : Calls Try.prog 26 #[.pointer (some ⟨g, 0, none⟩), .agg #[.int .i64 p.a, .int .i64 p.b]] w fun e w' => ∃ x : T7, e = .returned (.agg #[.int .i64 x.a, .int .i64 x.b, .int .i64 x.c, .int .i64 x.d, .int .i64 x.e, .int .i64 x.f, .int .i64 x.g]) ∧ CamD p x ∧ Drawn w w' g := by
  have hlow := hc.lt
  have HC := hid hc
  have hp' := hp
  unfold near at hp'
  clear hc
  go_enter Try.func26, Try.ntmps26
  go_wp2_with fail
  obtain ⟨wb, hwb⟩ : ∃ wb, wb = (w.alloc (.cells #[.int .i64 p.a, .int .i64 p.b] 28)).alloc (.cells #[.int .i64 0, .int .i64 0, .int .i64 0, .int .i64 0, .int .i64 0, .int .i64 0, .int .i64 0] 30) := ⟨_, rfl⟩
  have EB : Ext w wb := by rw [hwb]; repeat (first | exact Ext.refl _ | refine Ext.alloc ?_ _ | assumption | refine Ext.over ?_ _ | refine Ext.drew ?_ | refine Ext.drewN ?_ _)
  have a0 : wb.cell? ⟨w.heap.size, 0, none⟩ = some (.int .i64 p.a) := by rw [hwb]; go_simp
  have a1 : wb.cell? ⟨w.heap.size, 1, none⟩ = some (.int .i64 p.b) := by rw [hwb]; go_simp
  have HB := hid (show ∀ j, j < 7 → wb.cell? ⟨w.heap.size + 1, j, none⟩ = some (.int .i64 0) ∧ wb.frozen? ⟨w.heap.size + 1, j, none⟩ = false from fun j hj => by
    rw [hwb]
    rcases (show j = 0 ∨ j = 1 ∨ j = 2 ∨ j = 3 ∨ j = 4 ∨ j = 5 ∨ j = 6 by omega) with rfl | rfl | rfl | rfl | rfl | rfl | rfl <;> exact ⟨by go_simp, by go_simp⟩)
  have HSB := hid (show w.heap.size + 1 < wb.heap.size by rw [hwb]; simp)
  refine (l01Below_any g 6 _ (HC.out.ext (by repeat (first | exact Ext.refl _ | refine Ext.alloc ?_ _ | assumption | refine Ext.over ?_ _ | refine Ext.drew ?_ | refine Ext.drewN ?_ _))) (by omega)).mono ?_
  rw [← hwb]
  clear hwb
  rintro _ w1 ⟨v, rfl, v0, v1, hd⟩
  obtain ⟨k, rfl⟩ : ∃ k : Nat, v = k := ⟨v.toNat, by omega⟩
  have hk6 : k < 6 := by omega
  have hk' : (k : Int) < 6 := by omega
  have HD := hid (Drawn.of_ext EB hd)
  have a0 := (hd.cell (p := ⟨w.heap.size, 0, none⟩) (by have := HSB.out; show w.heap.size < _; omega) (by show w.heap.size ≠ g; omega)).trans a0
  have a1 := (hd.cell (p := ⟨w.heap.size, 1, none⟩) (by have := HSB.out; show w.heap.size < _; omega) (by show w.heap.size ≠ g; omega)).trans a1
  have hbb : w1.heap[w.heap.size + 1]? = wb.heap[w.heap.size + 1]? := hd.1.block _ HSB.out (by intro e; injection e with e; omega)
  have HB1 := hid (show ∀ j, j < 7 → w1.cell? ⟨w.heap.size + 1, j, none⟩ = some (.int .i64 0) ∧ w1.frozen? ⟨w.heap.size + 1, j, none⟩ = false from fun j hj => ⟨(World.cell?_of_block (a := ⟨w.heap.size + 1, j, none⟩) hbb).trans (HB.out j hj).1, (World.frozen?_of_block (a := ⟨w.heap.size + 1, j, none⟩) hbb).trans (HB.out j hj).2⟩)
  have hs1 : w.heap.size + 1 < w1.heap.size := by have := hd.size; have := HSB.out; omega
  have hgw : g < w1.heap.size := hd.2.lt
  clear hd v0 v1 HB hbb EB HSB
  have ht := tab_ok k hk6
  go_wp2_with fail
  obtain ⟨w2, hw2⟩ : ∃ w2, w2 = (((w1.alloc (.cells #[.int .i64 1, .int .i64 1, .int .i64 0, .int .i64 (-1), .int .i64 0, .int .i64 2] 3)).alloc (.cells #[.int .i64 0, .int .i64 1, .int .i64 1, .int .i64 0, .int .i64 (-1), .int .i64 1] 3)).alloc (.cells #[.int .i64 0, .int .i64 (-1), .int .i64 (-1), .int .i64 0, .int .i64 1, .int .i64 (-1)] 3)).alloc (.cells #[.int .i64 1, .int .i64 1, .int .i64 0, .int .i64 (-1), .int .i64 0, .int .i64 3] 3) := ⟨_, rfl⟩
  have E2 : Ext w1 w2 := by rw [hw2]; repeat (first | exact Ext.refl _ | refine Ext.alloc ?_ _ | assumption | refine Ext.over ?_ _ | refine Ext.drew ?_ | refine Ext.drewN ?_ _)
  have x0 : w2.cell? ⟨w1.heap.size, k, none⟩ = some (.int .i64 (tabX k)) := by rw [hw2]; exact lit_at (w := w1) (l := [1, 1, 0, -1, 0, 2]) (t := 3) rfl (by repeat (first | exact Ext.refl _ | refine Ext.alloc ?_ _ | assumption | refine Ext.over ?_ _ | refine Ext.drew ?_ | refine Ext.drewN ?_ _)) hk6
  have x1 : w2.cell? ⟨w1.heap.size + 1, k, none⟩ = some (.int .i64 (tabY k)) := by rw [hw2]; exact lit_at (w := w1.alloc _) (l := [0, 1, 1, 0, -1, 1]) (t := 3) (by simp) (by repeat (first | exact Ext.refl _ | refine Ext.alloc ?_ _ | assumption | refine Ext.over ?_ _ | refine Ext.drew ?_ | refine Ext.drewN ?_ _)) hk6
  have x2 : w2.cell? ⟨w1.heap.size + 1 + 1, k, none⟩ = some (.int .i64 (tabU k)) := by rw [hw2]; exact lit_at (w := (w1.alloc _).alloc _) (l := [0, -1, -1, 0, 1, -1]) (t := 3) (by simp) (by repeat (first | exact Ext.refl _ | refine Ext.alloc ?_ _ | assumption | refine Ext.over ?_ _ | refine Ext.drew ?_ | refine Ext.drewN ?_ _)) hk6
  have x3 : w2.cell? ⟨w1.heap.size + 1 + 1 + 1, k, none⟩ = some (.int .i64 (tabV k)) := by rw [hw2]; exact lit_at (w := ((w1.alloc _).alloc _).alloc _) (l := [1, 1, 0, -1, 0, 3]) (t := 3) (by simp) (by repeat (first | exact Ext.refl _ | refine Ext.alloc ?_ _ | assumption | refine Ext.over ?_ _ | refine Ext.drew ?_ | refine Ext.drewN ?_ _)) hk6
  rw [← hw2]
  have a0 := old_cell E2 a0
  have a1 := old_cell E2 a1
  have HB2 := hid (show ∀ j, j < 7 → w2.cell? ⟨w.heap.size + 1, j, none⟩ = some (.int .i64 0) ∧ w2.frozen? ⟨w.heap.size + 1, j, none⟩ = false from fun j hj => ⟨old_cell E2 (HB1.out j hj).1, (Below.frozen E2 (World.block_lt_of_cell? w1 _ (HB1.out j hj).1)).trans (HB1.out j hj).2⟩)
  have HD2 := hid (HD.out.ext E2)
  have hs2 : w.heap.size + 1 < w2.heap.size := by have := E2.size; omega
  obtain ⟨g0, hg0⟩ : ∃ g0, g0 = w1.heap.size := ⟨_, rfl⟩
  rw [← hg0] at x0 x1 x2 x3 ⊢
  have n0 : ¬ g0 = g := by omega
  have n1 : ¬ g0 + 1 = g := by omega
  have n2 : ¬ g0 + 1 + 1 = g := by omega
  have n3 : ¬ g0 + 1 + 1 + 1 = g := by omega
  have n4 : ¬ w.heap.size = g := by omega
  clear hw2 E2 HB1 HD hg0 hgw
  obtain ⟨X, hX⟩ : ∃ X, X = tabX k := ⟨_, rfl⟩
  obtain ⟨Y, hY⟩ : ∃ Y, Y = tabY k := ⟨_, rfl⟩
  obtain ⟨U, hU⟩ : ∃ U, U = tabU k := ⟨_, rfl⟩
  obtain ⟨V, hV⟩ : ∃ V, V = tabV k := ⟨_, rfl⟩
  rw [← hX] at x0 ht
  rw [← hY] at x1 ht
  rw [← hU] at x2 ht
  rw [← hV] at x3 ht
  clear hX hY hU hV
  refine wp_region_e (LaterG g g) (laterG_steady _ _) [.q 0, .q 1, .q 2, .q 3, .q 4, .q 5, .q 6, .q 7, .q 8, .q 9, .q 10, .q 11, .q 12, .q 13, .q 14, .q 15, .q 16, .q 17, .q 18, .q 19, .q 20, .q 21, .q 22, .q 23, .q 24, .q 25, .q 26, .q 27, .q 28, .q 29, .q 30, .q 31, .u 32, .u 33, .u 34] 35 _ rfl (by kernel_rfl) (by kernel_rfl) (fun w3 e3 => ?_)
  have a0 := old_cell e3 a0
  have a1 := old_cell e3 a1
  have x0 := old_cell e3 x0
  have x1 := old_cell e3 x1
  have x2 := old_cell e3 x2
  have x3 := old_cell e3 x3
  have HB3 := hid (show ∀ j, j < 7 → w3.cell? ⟨w.heap.size + 1, j, none⟩ = some (.int .i64 0) ∧ w3.frozen? ⟨w.heap.size + 1, j, none⟩ = false from fun j hj => ⟨old_cell e3 (HB2.out j hj).1, (Below.frozen e3 (World.block_lt_of_cell? w2 _ (HB2.out j hj).1)).trans (HB2.out j hj).2⟩)
  have HD3 := hid (HD2.out.ext e3)
  have hs3 : w.heap.size + 1 < w3.heap.size := by have := e3.size; omega
  have r1 : IntKind.i64.wrap (p.a + X) = p.a + X := IntWalk.i64_in _ (by omega)
  have r2 : IntKind.i64.wrap (p.b + Y) = p.b + Y := IntWalk.i64_in _ (by omega)
  have r3 : IntKind.i64.wrap (p.a + U) = p.a + U := IntWalk.i64_in _ (by omega)
  have r4 : IntKind.i64.wrap (p.b + V) = p.b + V := IntWalk.i64_in _ (by omega)
  clear e3 HB2 HD2
  simp only [pick, List.getElem?_cons_succ, List.getElem?_cons_zero]
  repeat (refine wpE_q (fun K hK => ?_); go_simp; refine hK _ ?_; clear hK K)
  refine wpE_u ?_
  refine stepH_of (fun K hK => ?_)
  go_simp
  refine (l01Below_any g 9 w3 HD3.out.2 (by omega)).mono ?_
  rintro _ w4 ⟨r, rfl, v0, v1, hd⟩
  refine ⟨_, rfl, hK _ _ (laterG_of (Kept.grown hd.1)) ?_⟩; clear hK K
  have hbb : w4.heap[w.heap.size + 1]? = w3.heap[w.heap.size + 1]? := hd.1.block _ hs3 (by intro e; injection e with e; omega)
  have HB4 := hid (show ∀ j, j < 7 → w4.cell? ⟨w.heap.size + 1, j, none⟩ = some (.int .i64 0) ∧ w4.frozen? ⟨w.heap.size + 1, j, none⟩ = false from fun j hj => ⟨(World.cell?_of_block (a := ⟨w.heap.size + 1, j, none⟩) hbb).trans (HB3.out j hj).1, (World.frozen?_of_block (a := ⟨w.heap.size + 1, j, none⟩) hbb).trans (HB3.out j hj).2⟩)
  have HD4 := hid (HD3.out.trans hd)
  clear hd hbb HB3 HD3 a0 a1 x0 x1 x2 x3
  have r5 : IntKind.i64.wrap (1 + r) = 1 + r := IntWalk.i64_in _ (by omega)
  ((first | refine wpE_u ?_ | skip); refine stepH_of (fun K hK => ?_); go_simp; refine hK _ _ (laterG_of (Kept.refl _ _ _)) ?_; clear hK K)
  ((first | refine wpE_u ?_ | skip); refine stepH_of (fun K hK => ?_); go_simp; refine hK _ _ (laterG_of (Kept.refl _ _ _)) ?_; clear hK K)
  obtain ⟨z0, f0⟩ := HB4.out 0 (by omega)
  obtain ⟨z1, f1⟩ := HB4.out 1 (by omega)
  obtain ⟨z2, f2⟩ := HB4.out 2 (by omega)
  obtain ⟨z3, f3⟩ := HB4.out 3 (by omega)
  obtain ⟨z4, f4⟩ := HB4.out 4 (by omega)
  obtain ⟨z5, f5⟩ := HB4.out 5 (by omega)
  obtain ⟨z6, f6⟩ := HB4.out 6 (by omega)
  refine wpE_nil (fun K hK => ?_)
  go_simp
  refine hK _ _ ?_; clear hK K
  go_wp2_with fail
  refine bodyPost_ret (v := .agg #[.int .i64 p.a, .int .i64 p.b, .int .i64 (p.a + X), .int .i64 (p.b + Y), .int .i64 (p.a + U), .int .i64 (p.b + V), .int .i64 (1 + r)]) (by first | (simp [results, Try.results26, go_sem, z0, z1, z2, z3, z4, z5, z6]; done) | (unfold results; rw [Try.results26]; go_simp)) rfl ?_
  refine ⟨⟨p.a, p.b, p.a + X, p.b + Y, p.a + U, p.b + V, 1 + r⟩, rfl, ?_, ?_⟩
  · unfold CamD
    dsimp only
    have e1 : p.a + X - p.a = X := by omega
    have e2 : p.b + Y - p.b = Y := by omega
    have e3 : p.a + U - p.a = U := by omega
    have e4 : p.b + V - p.b = V := by omega
    rw [e1, e2, e3, e4]
    exact ⟨⟨rfl, rfl⟩, ⟨ht.1, ht.2.1, ht.2.2.1, ht.2.2.2.1⟩, ht.2.2.2.2, by omega⟩
  · exact (((((((HD4.out.setc (b := w.heap.size + 1) (i := 0) (Nat.le_succ _) hlow _).setc (b := w.heap.size + 1) (i := 1) (Nat.le_succ _) hlow _).setc (b := w.heap.size + 1) (i := 2) (Nat.le_succ _) hlow _).setc (b := w.heap.size + 1) (i := 3) (Nat.le_succ _) hlow _).setc (b := w.heap.size + 1) (i := 4) (Nat.le_succ _) hlow _).setc (b := w.heap.size + 1) (i := 5) (Nat.le_succ _) hlow _).setc (b := w.heap.size + 1) (i := 6) (Nat.le_succ _) hlow _)
end Go.Proofs.Ytelmpiaaaffmlaa
/- Walks: a room and a camera in it are drawn. Conditions: sizes. -/
namespace Go.Proofs.Ytelmpiaaaffmlaa
open Go.RowKit
set_option linter.unusedVariables false

theorem CamD.near {p : T2} {x : T7} (h : CamD p x) : camAt x = p := by
  unfold camAt; rw [h.1.1, h.1.2]
theorem floor_near {m : Int} {L : List T2} (h : RoomN m L) (hm : 0 ≤ m) {p : T2} (hp : p ∈ floorL L) : near m p := by
  have hr := roomP_of h.1
  have hb := box_bound hr L.length (Nat.le_refl _)
  unfold floorL at hp
  have hf := flo_mem hp
  unfold wid hei at hf
  have hlo := hr.lo
  have h0 : ∀ j, j < L.length → (-m ≤ xs L j ∧ xs L j ≤ m) ∧ (-m ≤ ys L j ∧ ys L j ≤ m) := fun j hj => h.2 j hj
  have z0 := h0 0 (by omega)
  have b1 := mnF_bound (f := xs L) (z := xs L 0) z0.1 L.length (fun j hj => (h0 j hj).1)
  have b2 := mxF_bound (f := xs L) (z := xs L 0) z0.1 L.length (fun j hj => (h0 j hj).1)
  have b3 := mnF_bound (f := ys L) (z := ys L 0) z0.2 L.length (fun j hj => (h0 j hj).2)
  have b4 := mxF_bound (f := ys L) (z := ys L 0) z0.2 L.length (fun j hj => (h0 j hj).2)
  unfold lowX higX lowY higY at *
  unfold Go.Proofs.Ytelmpiaaaffmlaa.near
  omega
set_option maxRecDepth 100000 in
set_option maxHeartbeats 3200000 in
theorem DrawCamera_any (A : Option Addr) (n c : Nat) (bs : List Int) (w : World) (hl : Row w A (bs.map (Value.int .u8))) (hn : bs.length = n) (hx : n ≤ 1048576) (hz : ∀ z ∈ bs, 0 ≤ z ∧ z ≤ 255) :
    Calls Try.prog 6 #[.slice A n c] w fun en w' => ∃ (A : Option Addr) (k c : Nat) (L : List T2) (x : T7), en = .returned (.tuple #[.agg #[.slice A k c], .agg #[.int .i64 x.a, .int .i64 x.b, .int .i64 x.c, .int .i64 x.d, .int .i64 x.e, .int .i64 x.f, .int .i64 x.g]]) ∧ L.length = k ∧ RoomN 18 L ∧ camAt x ∈ floorL L ∧ CamD (camAt x) x ∧ Row w' A (L.flatMap T2.v) ∧ Ext w w' := by
  have HZ := hid hz
  clear hz
  go_enter Try.func6, Try.ntmps6
  go_wp2_with fail
  obtain ⟨wb, hwb⟩ : ∃ wb, wb = (w.alloc (.cells #[.slice none 0 0] 26)).alloc (.cells #[.int .i64 0, .int .i64 0, .int .i64 0, .int .i64 0, .int .i64 0, .int .i64 0, .int .i64 0] 30) := ⟨_, rfl⟩
  have EB : Ext w wb := by rw [hwb]; repeat (first | exact Ext.refl _ | refine Ext.alloc ?_ _ | assumption | refine Ext.over ?_ _ | refine Ext.drew ?_ | refine Ext.drewN ?_ _)
  have HB2 := hid (show Box wb w.heap.size (.slice none 0 0) from ⟨by rw [hwb]; go_simp, by rw [hwb]; go_simp⟩)
  have HB3 := hid (show ∀ j, j < 7 → wb.cell? ⟨w.heap.size + 1, j, none⟩ = some (.int .i64 0) ∧ wb.frozen? ⟨w.heap.size + 1, j, none⟩ = false from fun j hj => by
    rw [hwb]
    rcases (show j = 0 ∨ j = 1 ∨ j = 2 ∨ j = 3 ∨ j = 4 ∨ j = 5 ∨ j = 6 by omega) with rfl | rfl | rfl | rfl | rfl | rfl | rfl <;> exact ⟨by go_simp, by go_simp⟩)
  have HSB := hid (show w.heap.size + 2 = wb.heap.size by rw [hwb]; simp)
  refine (l01New_any A n c bs _ (hl.ext (by repeat (first | exact Ext.refl _ | refine Ext.alloc ?_ _ | assumption | refine Ext.over ?_ _ | refine Ext.drew ?_ | refine Ext.drewN ?_ _))) hn hx HZ.out).mono ?_
  rw [← hwb]
  clear hwb
  rintro _ w1 ⟨g, rfl, hg, hc, he⟩
  have HC := hid hc
  have HE := hid (EB.trans he)
  have hbl := HSB.out
  have hgl := hc.lt
  have blk : ∀ b, b < wb.heap.size → w1.heap[b]? = wb.heap[b]? := fun b hb => he.block b hb
  have H2 := hid (HB2.out.blk (blk _ (by omega)))
  have H3 := hid (show ∀ j, j < 7 → w1.cell? ⟨w.heap.size + 1, j, none⟩ = some (.int .i64 0) ∧ w1.frozen? ⟨w.heap.size + 1, j, none⟩ = false from fun j hj => ⟨(World.cell?_of_block (a := ⟨w.heap.size + 1, j, none⟩) (blk _ (by show w.heap.size + 1 < _; omega))).trans (HB3.out j hj).1, (World.frozen?_of_block (a := ⟨w.heap.size + 1, j, none⟩) (blk _ (by show w.heap.size + 1 < _; omega))).trans (HB3.out j hj).2⟩)
  have hs1 := he.size
  clear hc he HB2 HB3 HSB EB blk
  go_wp2_with fail
  refine (l04Room_any g w1 HC.out).mono ?_
  rintro _ w2 ⟨B, k, d, L, rfl, hll, hrm, ho, hd⟩
  have HRM := hid hrm
  have HLL := hid hll
  obtain ⟨w3, hw3⟩ : ∃ w3, w3 = w2.alloc (.cells #[.slice B k d] 26) := ⟨_, rfl⟩
  have e3 : Ext w2 w3 := by rw [hw3]; repeat (first | exact Ext.refl _ | refine Ext.alloc ?_ _ | assumption | refine Ext.over ?_ _ | refine Ext.drew ?_ | refine Ext.drewN ?_ _)
  have HD3 := hid (hd.ext e3)
  have HO3 := hid (own_ext ho e3)
  have HR3 := hid (show Box w3 w2.heap.size (.slice B k d) from ⟨by rw [hw3]; go_simp, by rw [hw3]; go_simp⟩)
  have hbr : w1.heap.size ≤ w2.heap.size := hd.size
  go_wp2_with fail
  rw [← hw3]
  clear hw3 e3 ho hd hll hrm
  generalize w2.heap.size = br at HR3 hbr ⊢
  have hxr := HR3.out.1
  have hbg : ¬ br = g := by omega
  go_wp2_with fail
  refine (l08Point_any g B k d L w3 HD3.out.2 (Row.of_own HO3.out) HLL.out HRM.out.1).mono ?_
  rintro _ w4 ⟨p, rfl, hp, hd⟩
  obtain ⟨w5, hw5⟩ : ∃ w5, w5 = w4.alloc (.cells #[.int .i64 p.a, .int .i64 p.b] 28) := ⟨_, rfl⟩
  have e5 : Ext w4 w5 := by rw [hw5]; repeat (first | exact Ext.refl _ | refine Ext.alloc ?_ _ | assumption | refine Ext.over ?_ _ | refine Ext.drew ?_ | refine Ext.drewN ?_ _)
  have HP := hid hp
  have HD5 := hid ((HD3.out.trans hd).ext e5)
  have HO5 := hid (own_ext (hd.own HO3.out hgl) e5)
  have HR5 := hid ((HR3.out.grown hd.1 (by intro e; injection e with e; exact hbg e.symm)).ext e5)
  have p0 : w5.cell? ⟨w4.heap.size, 0, none⟩ = some (.int .i64 p.a) := by rw [hw5]; go_simp
  have p1 : w5.cell? ⟨w4.heap.size, 1, none⟩ = some (.int .i64 p.b) := by rw [hw5]; go_simp
  have hbp : w1.heap.size ≤ w4.heap.size := by have := hd.size; have := HD3.out.size; omega
  have HPN := hid (floor_near HRM.out (by omega) hp)
  go_wp2_with fail
  rw [← hw5]
  clear hw5 e5 hd hp HD3 HO3 HR3 hxr
  generalize w4.heap.size = bp at p0 p1 hbp ⊢
  have hxr := HR5.out.1
  have hpg : ¬ bp = g := by omega
  have hr2 : ¬ br = w.heap.size := by omega
  have hp2 : ¬ bp = w.heap.size := by omega
  have hg2 : ¬ g = w.heap.size := by omega
  refine wp_region_e (LaterG g w.heap.size) (laterG_steady _ _) [.q 0, .q 1, .q 2, .u 3, .u 4] 5 _ rfl (by kernel_rfl) (by kernel_rfl) (fun w6 e6 => ?_)
  have HD6 := hid (HD5.out.ext e6)
  have HO6 := hid (own_ext HO5.out e6)
  have p0 := old_cell e6 p0
  have p1 := old_cell e6 p1
  have hxr := old_cell e6 hxr
  clear e6 HD5 HO5 HR5
  simp only [pick, List.getElem?_cons_succ, List.getElem?_cons_zero]
  repeat (refine wpE_q (fun K hK => ?_); go_simp; refine hK _ ?_; clear hK K)
  refine wpE_u ?_
  refine stepH_of (fun K hK => ?_)
  go_simp
  refine (l25Camera_any g p w6 HD6.out.2 HPN.out).mono ?_
  rintro _ w7 ⟨x, rfl, hcd, hd⟩
  refine ⟨_, rfl, hK _ _ (laterG_of (Kept.grown hd.1)) ?_⟩; clear hK K
  have HCD := hid hcd
  have HD7 := hid (HD6.out.trans hd)
  have HO7 := hid (hd.own HO6.out hgl)
  have blk : ∀ b, b < w1.heap.size → b ≠ g → w7.heap[b]? = w1.heap[b]? := fun b hb hne => HD7.out.1.block b hb (by intro e; injection e with e; exact hne e)
  have H27 := hid (H2.out.blk (blk _ (by omega) (by omega)))
  have H37 := hid (show ∀ j, j < 7 → w7.cell? ⟨w.heap.size + 1, j, none⟩ = some (.int .i64 0) ∧ w7.frozen? ⟨w.heap.size + 1, j, none⟩ = false from fun j hj => ⟨(World.cell?_of_block (a := ⟨w.heap.size + 1, j, none⟩) (blk _ (by show w.heap.size + 1 < _; omega) (by show w.heap.size + 1 ≠ g; omega))).trans (H3.out j hj).1, (World.frozen?_of_block (a := ⟨w.heap.size + 1, j, none⟩) (blk _ (by show w.heap.size + 1 < _; omega) (by show w.heap.size + 1 ≠ g; omega))).trans (H3.out j hj).2⟩)
  have hc2 := H27.out.1
  have hf2 := H27.out.2
  clear hd hcd HD6 HO6 p0 p1 hxr blk H2 H3
  refine wpE_u ?_
  refine stepH_of (fun K hK => ?_)
  go_simp
  have hgr : w7.grownBy (w7.setCell ⟨w.heap.size, 0, none⟩ (.slice B k d)) (some w.heap.size) := only_setCell (g := w.heap.size) (p := ⟨w.heap.size, 0, none⟩) (World.grownBy.refl _ _) (.inl rfl) _
  refine hK _ _ (laterG_of (Kept.grown' hgr)) ?_; clear hK K
  obtain ⟨w8, hw8⟩ : ∃ w8, w8 = w7.setCell ⟨w.heap.size, 0, none⟩ (.slice B k d) := ⟨_, rfl⟩
  rw [← hw8] at hgr ⊢
  have hx2 := H27.out.put (.slice B k d)
  rw [← hw8] at hx2
  have HO8 := hid (HO7.out.kept hgr (.inr fun e => by have := (HO7.out.lt _ e).1; omega))
  have hb8 : w8.heap[w.heap.size + 1]? = w7.heap[w.heap.size + 1]? := by rw [hw8]; exact Below.heap_setCell _ _ _ _ (by show w.heap.size + 1 ≠ w.heap.size; omega)
  have H38 := hid (show ∀ j, j < 7 → w8.cell? ⟨w.heap.size + 1, j, none⟩ = some (.int .i64 0) ∧ w8.frozen? ⟨w.heap.size + 1, j, none⟩ = false from fun j hj => ⟨(World.cell?_of_block (a := ⟨w.heap.size + 1, j, none⟩) hb8).trans (H37.out j hj).1, (World.frozen?_of_block (a := ⟨w.heap.size + 1, j, none⟩) hb8).trans (H37.out j hj).2⟩)
  have HE8 := hid (show Ext w w8 by rw [hw8]; exact (HD7.out.out HE.out (by omega)).setCell (by exact Nat.le_refl _) _)
  have hc2 := hx2.1
  clear hw8 hgr hb8 H37 HD7 H27 hx2 hf2
  obtain ⟨z0, f0⟩ := H38.out 0 (by omega)
  obtain ⟨z1, f1⟩ := H38.out 1 (by omega)
  obtain ⟨z2, f2⟩ := H38.out 2 (by omega)
  obtain ⟨z3, f3⟩ := H38.out 3 (by omega)
  obtain ⟨z4, f4⟩ := H38.out 4 (by omega)
  obtain ⟨z5, f5⟩ := H38.out 5 (by omega)
  obtain ⟨z6, f6⟩ := H38.out 6 (by omega)
  refine wpE_nil (fun K hK => ?_)
  go_simp
  refine hK _ _ ?_; clear hK K
  go_wp2_with fail
  refine bodyPost_ret (v := .tuple #[.agg #[.slice B k d], .agg #[.int .i64 x.a, .int .i64 x.b, .int .i64 x.c, .int .i64 x.d, .int .i64 x.e, .int .i64 x.f, .int .i64 x.g]]) (by first | (simp [results, Try.results6, go_sem, z0, z1, z2, z3, z4, z5, z6, hc2]; done) | (unfold results; rw [Try.results6]; go_simp)) rfl ?_
  have HCA := hid HCD.out.near
  refine ⟨B, k, d, L, x, rfl, HLL.out, HRM.out, by rw [HCA.out]; exact HP.out, by rw [HCA.out]; exact HCD.out, Row.of_own (own_farR (own_farR (own_farR (own_farR (own_farR (own_farR (own_farR HO8.out (p := ⟨w.heap.size + 1, 0, none⟩) (by show w.heap.size + 1 < w1.heap.size; omega) _) (p := ⟨w.heap.size + 1, 1, none⟩) (by show w.heap.size + 1 < w1.heap.size; omega) _) (p := ⟨w.heap.size + 1, 2, none⟩) (by show w.heap.size + 1 < w1.heap.size; omega) _) (p := ⟨w.heap.size + 1, 3, none⟩) (by show w.heap.size + 1 < w1.heap.size; omega) _) (p := ⟨w.heap.size + 1, 4, none⟩) (by show w.heap.size + 1 < w1.heap.size; omega) _) (p := ⟨w.heap.size + 1, 5, none⟩) (by show w.heap.size + 1 < w1.heap.size; omega) _) (p := ⟨w.heap.size + 1, 6, none⟩) (by show w.heap.size + 1 < w1.heap.size; omega) _), (((((((HE8.out.setCell (by exact Nat.le_succ _) _).setCell (by exact Nat.le_succ _) _).setCell (by exact Nat.le_succ _) _).setCell (by exact Nat.le_succ _) _).setCell (by exact Nat.le_succ _) _).setCell (by exact Nat.le_succ _) _).setCell (by exact Nat.le_succ _) _)⟩
end Go.Proofs.Ytelmpiaaaffmlaa
/- Walks: a room and cameras in it are drawn. Conditions: sizes. -/
namespace Go.Proofs.Ytelmpiaaaffmlaa
open Go.RowKit
set_option linter.unusedVariables false

theorem info_CameraD : (Try.prog.info? 30).map (fun i => (i.zero, i.size, i.bytes)) = some (some (.agg #[.int .i64 0, .int .i64 0, .int .i64 0, .int .i64 0, .int .i64 0, .int .i64 0, .int .i64 0]), 7, 56) := by kernel_rfl
theorem own_capD {w : World} {base n c size : Nat} {e : TypeId} {A : Option Addr} {xs : List Value} (h : w.ownsRow base e size (.slice A n c) n xs) : n ≤ c := by
  rcases h.2 with ⟨hv, hn⟩ | ⟨g, cap, cur, hv, _, _, hc, _⟩
  · injection hv with _ h2 h3; omega
  · injection hv with _ h2 h3; omega
/-- Drawn cameras on a floor. -/
def Cams (L : List T2) (l : List T7) : Prop := l.length ≤ 4 ∧ ∀ x, x ∈ l → camAt x ∈ floorL L ∧ CamD (camAt x) x
set_option maxRecDepth 100000 in
set_option maxHeartbeats 1600000 in
theorem l26Cameras_any (g base : Nat) (A0 : Option Addr) (n0 c0 : Nat) (L : List T2) (w : World) (hc : Cur w g) (hr : w.ownsRow base 28 2 (.slice A0 n0 c0) n0 (L.flatMap T2.v)) (hb : g < base) (hn : L.length = n0) (hrm : RoomN 18 L) : Calls Try.prog 37 #[.pointer (some ⟨g, 0, none⟩), .agg #[.slice A0 n0 c0]] w fun en w' => ∃ (A : Option Addr) (k c : Nat) (l : List T7), en = .returned (.slice A k c) ∧ l.length = k ∧ Cams L l ∧ w'.ownsRow w.heap.size 30 7 (.slice A k c) k (l.flatMap T7.v) ∧ Drawn w w' g := by
  have hlow := hc.lt
  have HC := hid hc
  have HR := hid hr
  have HRB := hid (fun j (hj : (Value.slice A0 n0 c0).ownBlock = some j) => (hr.lt j hj).2)
  have HRM := hid hrm
  have HRO := hid hrm.1
  have hx0 : n0 ≤ 1048577 := by have := (roomP_of hrm.1).hi; omega
  clear hc hr hrm
  go_enter Try.func37, Try.ntmps37
  go_wp2_with fail
  have HO0 := hid (own_empty (w.alloc (.cells #[.slice A0 n0 c0] 26)) w.heap.size.succ (w.heap.size + 1) (by simp) (by simp) 30 7)
  have HB0 := hid (show Box (w.alloc (.cells #[.slice A0 n0 c0] 26)) w.heap.size (.slice A0 n0 c0) from ⟨by go_simp, by go_simp⟩)
  obtain ⟨wb, hwb⟩ : ∃ wb, wb = (w.alloc (.cells #[.slice A0 n0 c0] 26)).alloc (.cells #[] 30) := ⟨_, rfl⟩
  have EB : Ext w wb := by rw [hwb]; repeat (first | exact Ext.refl _ | refine Ext.alloc ?_ _ | assumption | refine Ext.over ?_ _ | refine Ext.drew ?_ | refine Ext.drewN ?_ _)
  have HBB := hid (show Box wb w.heap.size (.slice A0 n0 c0) by rw [hwb]; exact HB0.out.ext (by repeat (first | exact Ext.refl _ | refine Ext.alloc ?_ _ | assumption | refine Ext.over ?_ _ | refine Ext.drew ?_ | refine Ext.drewN ?_ _)))
  have HSB := hid (show w.heap.size < wb.heap.size by rw [hwb]; simp; omega)
  refine (l01Below_any g 5 _ (HC.out.ext (by repeat (first | exact Ext.refl _ | refine Ext.alloc ?_ _ | assumption | refine Ext.over ?_ _ | refine Ext.drew ?_ | refine Ext.drewN ?_ _))) (by omega)).mono ?_
  rw [← hwb] at HO0 ⊢
  clear hwb HB0
  rintro _ w1 ⟨v, rfl, v0, v1, hd⟩
  obtain ⟨n, rfl⟩ : ∃ p : Nat, v = p := ⟨v.toNat, by omega⟩
  have hn4 : n ≤ 4 := by omega
  have HO1 := hid (hd.own HO0.out (by omega))
  have HD1 := hid (Drawn.of_ext EB hd)
  have HR1 := hid (hd.own (own_ext HR.out EB) hb)
  have HX1 := hid (HBB.out.blk (hd.1.block _ HSB.out (by intro e; injection e with e; omega)))
  clear hd v0 v1 HO0 HBB HSB EB HR
  go_wp2_with fail
  go_loopw [5, 7] (fun ov kv wr => ∃ (k : Nat) (A : Option Addr) (c : Nat) (l : List T7), k ≤ n ∧ kv = .int .i64 ↑k ∧ ov = .slice A k c ∧ l.length = k ∧ (∀ x, x ∈ l → camAt x ∈ floorL L ∧ CamD (camAt x) x) ∧ wr.ownsRow (w.heap.size + 1) 30 7 (.slice A k c) k (l.flatMap T7.v) ∧ wr.ownsRow base 28 2 (.slice A0 n0 c0) n0 (L.flatMap T2.v) ∧ Box wr w.heap.size (.slice A0 n0 c0) ∧ Drawn w wr g) (fun _ kv _ => n - (intOf kv).toNat)
  case atStart => exact ⟨0, _, _, [], by omega, rfl, rfl, rfl, (fun x hx => by cases hx), HO1.out, HR1.out, HX1.out, HD1.out⟩
  case round =>
    clear HO1 HD1 HR1 HX1
    obtain ⟨k, A, c, l, hk, rfl, rfl, hll, hs, hown, hrow, hbox, hd⟩ := hrel
    have HS := hid hs
    have HO := hid hown
    have HD := hid hd
    have HLL := hid hll
    have HR := hid hrow
    have HX := hid hbox
    have hxr := hbox.1
    clear hs hown hd hll hrow hbox
    by_cases hlt : k < n
    · go_wp2_with (go_at_call 40; refine (gives_b HRO.out (sRoomOk_any A0 n0 c0 L _ (Row.of_own HR.out) hn hx0)).over.mono ?_; rintro e w' ⟨rfl, xw, rfl⟩)
      refine (l08Point_any g A0 n0 c0 L _ (HD.out.2.ext (by repeat (first | exact Ext.refl _ | refine Ext.alloc ?_ _ | assumption | refine Ext.over ?_ _ | refine Ext.drew ?_ | refine Ext.drewN ?_ _))) ((Row.of_own HR.out).ext (by repeat (first | exact Ext.refl _ | refine Ext.alloc ?_ _ | assumption | refine Ext.over ?_ _ | refine Ext.drew ?_ | refine Ext.drewN ?_ _))) hn HRO.out).mono ?_
      rintro _ w3 ⟨p, rfl, hp, hd⟩
      have HP := hid hp
      have HD3 := hid (HD.out.trans (Drawn.of_ext (by repeat (first | exact Ext.refl _ | refine Ext.alloc ?_ _ | assumption | refine Ext.over ?_ _ | refine Ext.drew ?_ | refine Ext.drewN ?_ _)) hd))
      have HO3 := hid (hd.own (own_ext HO.out (by repeat (first | exact Ext.refl _ | refine Ext.alloc ?_ _ | assumption | refine Ext.over ?_ _ | refine Ext.drew ?_ | refine Ext.drewN ?_ _))) (by omega))
      have HR3 := hid (hd.own (own_ext HR.out (by repeat (first | exact Ext.refl _ | refine Ext.alloc ?_ _ | assumption | refine Ext.over ?_ _ | refine Ext.drew ?_ | refine Ext.drewN ?_ _))) hb)
      have hwz := HD.out.size
      have HX3 := hid ((HX.out.ext (show Ext wr _ by repeat (first | exact Ext.refl _ | refine Ext.alloc ?_ _ | assumption | refine Ext.over ?_ _ | refine Ext.drew ?_ | refine Ext.drewN ?_ _))).blk (hd.1.block _ (World.block_lt_of_cell? _ _ (HX.out.ext (show Ext wr _ by repeat (first | exact Ext.refl _ | refine Ext.alloc ?_ _ | assumption | refine Ext.over ?_ _ | refine Ext.drew ?_ | refine Ext.drewN ?_ _))).1) (by intro e; injection e with e; omega)))
      have HPN := hid (floor_near HRM.out (by omega) hp)
      clear hd hp HD HO HR HX hxr hwz
      go_wp2_with fail
      refine (l25Camera_any g p w3 HD3.out.2 HPN.out).mono ?_
      rintro _ w4 ⟨x, rfl, hcd, hd⟩
      have HCD := hid hcd
      have HD4 := hid (HD3.out.trans hd)
      have HO4 := hid (hd.own HO3.out (by omega))
      have HR4 := hid (hd.own HR3.out hb)
      have hwz := HD3.out.size
      have HX4 := hid (HX3.out.blk (hd.1.block _ (World.block_lt_of_cell? _ _ HX3.out.1) (by intro e; injection e with e; omega)))
      have HSZ := hid (show w.heap.size + 1 ≤ w4.heap.size from HX4.out.lt)
      have hlen := HLL.out
      clear hd hcd HD3 HO3 HR3 HX3 hwz
      go_wp2_with (at_builtin; refine wpList_pushG rfl (.tmp 26) (.tmp 28) 41 rfl 30 Try.underlying41 info_CameraD rfl (by decide) (w.heap.size + 1) A k c (l.flatMap T7.v) rfl w4 HO4.out (by repeat (first | exact Ext.refl _ | refine Ext.alloc ?_ _ | assumption | refine Ext.over ?_ _ | refine Ext.drew ?_ | refine Ext.drewN ?_ _)) HSZ.out _ 1 1 [.int .i64 x.a, .int .i64 x.b, .int .i64 x.c, .int .i64 x.d, .int .i64 x.e, .int .i64 x.f, .int .i64 x.g] rfl rfl (lit_cells _ _ (by first | (simp; done) | simp [ovr_size]) _ _) (by intro z hz; simp at hz; rcases hz with rfl | rfl | rfl | rfl | rfl | rfl | rfl <;> rfl) (by omega) (by decide) ?_)
      intro A2 c3 w11 hown hgr
      have HD5 := hid (HD4.out.grown hgr hlow (fun j hj => by have := (HO4.out.lt j hj).1; omega))
      have HO5 := hid (show w11.ownsRow (w.heap.size + 1) 30 7 (.slice A2 (k + 1) c3) (k + 1) ((l ++ [x]).flatMap T7.v) by rw [List.flatMap_append]; exact hown)
      have hne1 : ∀ j, (Value.slice A k c).ownBlock = some j → w.heap.size + 1 ≤ j := fun j hj => (HO4.out.lt j hj).1
      have HR5 := hid (show w11.ownsRow base 28 2 (.slice A0 n0 c0) n0 (L.flatMap T2.v) from HR4.out.kept hgr (by
        cases hob : (Value.slice A0 n0 c0).ownBlock with
        | none => exact .inl rfl
        | some j => exact .inr fun e => by have h1 := HRB.out j hob; have h2 := hne1 j e.symm; omega))
      have HX5 := hid (HX4.out.grown hgr (fun e => by have := hne1 _ e; omega))
      clear hown hgr HO4 HD4 HR4 HX4
      go_wp2_with fail
      go_roundw
      case rel => exact ⟨k + 1, A2, c3, l ++ [x], by omega, by go_num, rfl, by rw [List.length_append, hlen]; rfl, (fun z hz => by
        rcases List.mem_append.1 hz with hz | hz
        · exact HS.out z hz
        · obtain rfl : z = x := by simpa using hz
          rw [HCD.out.near]; exact ⟨HP.out, HCD.out⟩), HO5.out, HR5.out, HX5.out, HD5.out⟩
      case measure => simp [intOf]; omega
    · obtain rfl : k = n := by omega
      go_wp2_with fail
      go_ret
      exact ⟨A, k, c, l, rfl, HLL.out, ⟨by have := HLL.out; omega, HS.out⟩, own_base HO.out (Nat.le_succ _), HD.out⟩
set_option maxRecDepth 100000 in
set_option maxHeartbeats 3200000 in
theorem DrawCameras_any (A : Option Addr) (n c : Nat) (bs : List Int) (w : World) (hl : Row w A (bs.map (Value.int .u8))) (hn : bs.length = n) (hx : n ≤ 1048576) (hz : ∀ z ∈ bs, 0 ≤ z ∧ z ≤ 255) :
    Calls Try.prog 14 #[.slice A n c] w fun en w' => ∃ (A : Option Addr) (k c : Nat) (L : List T2) (B : Option Addr) (m d : Nat) (l : List T7), en = .returned (.tuple #[.agg #[.slice A k c], .slice B m d]) ∧ L.length = k ∧ RoomN 18 L ∧ l.length = m ∧ m ≤ d ∧ Cams L l ∧ Row w' A (L.flatMap T2.v) ∧ Row w' B (l.flatMap T7.v) ∧ Ext w w' := by
  have HZ := hid hz
  clear hz
  go_enter Try.func14, Try.ntmps14
  go_wp2_with fail
  obtain ⟨wb, hwb⟩ : ∃ wb, wb = w.alloc (.cells #[.slice none 0 0] 26) := ⟨_, rfl⟩
  have EB : Ext w wb := by rw [hwb]; repeat (first | exact Ext.refl _ | refine Ext.alloc ?_ _ | assumption | refine Ext.over ?_ _ | refine Ext.drew ?_ | refine Ext.drewN ?_ _)
  have HB2 := hid (show Box wb w.heap.size (.slice none 0 0) from ⟨by rw [hwb]; go_simp, by rw [hwb]; go_simp⟩)
  have HSB := hid (show w.heap.size + 1 = wb.heap.size by rw [hwb]; simp)
  refine (l01New_any A n c bs _ (hl.ext (by repeat (first | exact Ext.refl _ | refine Ext.alloc ?_ _ | assumption | refine Ext.over ?_ _ | refine Ext.drew ?_ | refine Ext.drewN ?_ _))) hn hx HZ.out).mono ?_
  rw [← hwb]
  clear hwb
  rintro _ w1 ⟨g, rfl, hg, hc, he⟩
  have HC := hid hc
  have HE := hid (EB.trans he)
  have hbl := HSB.out
  have hgl := hc.lt
  have H2 := hid (HB2.out.blk (he.block _ (by omega)))
  have hs1 := he.size
  clear hc he HB2 HSB EB
  go_wp2_with fail
  refine (l04Room_any g w1 HC.out).mono ?_
  rintro _ w2 ⟨B, k, d, L, rfl, hll, hrm, ho, hd⟩
  have HRM := hid hrm
  have HLL := hid hll
  obtain ⟨w3, hw3⟩ : ∃ w3, w3 = w2.alloc (.cells #[.slice B k d] 26) := ⟨_, rfl⟩
  have e3 : Ext w2 w3 := by rw [hw3]; repeat (first | exact Ext.refl _ | refine Ext.alloc ?_ _ | assumption | refine Ext.over ?_ _ | refine Ext.drew ?_ | refine Ext.drewN ?_ _)
  have HD3 := hid (hd.ext e3)
  have HO3 := hid (own_ext ho e3)
  have HR3 := hid (show Box w3 w2.heap.size (.slice B k d) from ⟨by rw [hw3]; go_simp, by rw [hw3]; go_simp⟩)
  have hbr : w1.heap.size ≤ w2.heap.size := hd.size
  go_wp2_with fail
  rw [← hw3]
  clear hw3 e3 ho hd hll hrm
  generalize w2.heap.size = br at HR3 hbr ⊢
  have hxr := HR3.out.1
  have hbg : ¬ br = g := by omega
  have hr2 : ¬ br = w.heap.size := by omega
  have hg2 : ¬ g = w.heap.size := by omega
  refine wp_region_e (LaterG g w.heap.size) (laterG_steady _ _) [.q 0, .q 1, .q 2, .u 3, .u 4] 5 _ rfl (by kernel_rfl) (by kernel_rfl) (fun w6 e6 => ?_)
  have HD6 := hid (HD3.out.ext e6)
  have HO6 := hid (own_ext HO3.out e6)
  have hxr := old_cell e6 hxr
  clear e6 HD3 HO3 HR3
  simp only [pick, List.getElem?_cons_succ, List.getElem?_cons_zero]
  repeat (refine wpE_q (fun K hK => ?_); go_simp; refine hK _ ?_; clear hK K)
  refine wpE_u ?_
  refine stepH_of (fun K hK => ?_)
  go_simp
  refine (l26Cameras_any g w1.heap.size B k d L w6 HD6.out.2 HO6.out hgl HLL.out HRM.out).mono ?_
  rintro _ w7 ⟨C, m, d2, l, rfl, hlm, hcs, hol, hd⟩
  refine ⟨_, rfl, hK _ _ (laterG_of (Kept.grown hd.1)) ?_⟩; clear hK K
  have HCS := hid hcs
  have HLM := hid hlm
  have HMD := hid (own_capD hol)
  have HD7 := hid (HD6.out.trans hd)
  have HO7 := hid (hd.own HO6.out hgl)
  have HL7 := hid (own_base (base' := w1.heap.size) hol HD6.out.size)
  have H27 := hid (H2.out.blk (HD7.out.1.block _ (by omega) (by intro e; injection e with e; exact hg2 e.symm)))
  have hc2 := H27.out.1
  have hf2 := H27.out.2
  clear hd hcs hlm hol HD6 HO6 hxr H2
  refine wpE_u ?_
  refine stepH_of (fun K hK => ?_)
  go_simp
  have hgr : w7.grownBy (w7.setCell ⟨w.heap.size, 0, none⟩ (.slice B k d)) (some w.heap.size) := only_setCell (g := w.heap.size) (p := ⟨w.heap.size, 0, none⟩) (World.grownBy.refl _ _) (.inl rfl) _
  refine hK _ _ (laterG_of (Kept.grown' hgr)) ?_; clear hK K
  obtain ⟨w8, hw8⟩ : ∃ w8, w8 = w7.setCell ⟨w.heap.size, 0, none⟩ (.slice B k d) := ⟨_, rfl⟩
  rw [← hw8] at hgr ⊢
  have hx2 := H27.out.put (.slice B k d)
  rw [← hw8] at hx2
  have HO8 := hid (HO7.out.kept hgr (.inr fun e => by have := (HO7.out.lt _ e).1; omega))
  have HL8 := hid (HL7.out.kept hgr (.inr fun e => by have := (HL7.out.lt _ e).1; omega))
  have HE8 := hid (show Ext w w8 by rw [hw8]; exact (HD7.out.out HE.out (by omega)).setCell (by exact Nat.le_refl _) _)
  have hc2 := hx2.1
  clear hw8 hgr HD7 H27 hx2 hf2
  refine wpE_nil (fun K hK => ?_)
  go_simp
  refine hK _ _ ?_; clear hK K
  go_wp2_with fail
  refine bodyPost_ret (v := .tuple #[.agg #[.slice B k d], .slice C m d2]) (by first | (simp [results, Try.results14, go_sem, hc2]; done) | (unfold results; rw [Try.results14]; go_simp)) rfl ?_
  exact ⟨B, k, d, L, C, m, d2, l, rfl, HLL.out, HRM.out, HLM.out, HMD.out, HCS.out, Row.of_own HO8.out, Row.of_own HL8.out, HE8.out⟩
end Go.Proofs.Ytelmpiaaaffmlaa
/- Walks of the helpers of the laws that draw. Conditions: sizes. -/
namespace Go.Proofs.Ytelmpiaaaffmlaa
open Go.RowKit
set_option linter.unusedVariables false

theorem big_any (A : Option Addr) (n c : Nat) (w : World) : Gives Try.prog 5 #[.slice A n c] w (.bool (decide ((1048576 : Int) < n))) := by
  (unfold Gives; go_enter Try.func5, Try.ntmps5)
  go_wp2_with fail
  go_ret
  exact ⟨rfl, by repeat (first | exact Ext.refl _ | refine Ext.alloc ?_ _ | assumption | refine Ext.over ?_ _ | refine Ext.drew ?_ | refine Ext.drewN ?_ _)⟩
/-- A number out of the bytes. -/
def atV (bs : List Int) (i : Nat) : Int := if bs.length = 0 then 0 else bs.getD ((i * 5 + 1) % bs.length) 0
theorem atV_bound {bs : List Int} (hz : ∀ z ∈ bs, 0 ≤ z ∧ z ≤ 255) (i : Nat) : 0 ≤ atV bs i ∧ atV bs i ≤ 255 := by
  unfold atV
  split
  · omega
  · rename_i h
    have hlt : (i * 5 + 1) % bs.length < bs.length := Nat.mod_lt _ (by omega)
    rw [List.getD_eq_getElem?_getD, List.getElem?_eq_getElem hlt]
    exact hz _ (List.getElem_mem hlt)
theorem at_any (A : Option Addr) (n c : Nat) (bs : List Int) (i : Nat) (w : World) (hl : Row w A (bs.map (Value.int .u8))) (hn : bs.length = n) (hx : n ≤ 1048576) (hi : i ≤ 100) (hz : ∀ z ∈ bs, 0 ≤ z ∧ z ≤ 255) :
    Gives Try.prog 18 #[.slice A n c, .int .i64 i] w (.int .i64 (atV bs i)) := by
  subst hn
  have HZ := hid hz
  clear hz
  by_cases h0 : bs.length = 0
  · have HV := hid (show atV bs i = 0 by unfold atV; rw [if_pos h0])
    (unfold Gives; go_enter Try.func18, Try.ntmps18)
    go_wp2_with fail
    go_ret
    exact ⟨by rw [HV.out]; rfl, by repeat (first | exact Ext.refl _ | refine Ext.alloc ?_ _ | assumption | refine Ext.over ?_ _ | refine Ext.drew ?_ | refine Ext.drewN ?_ _)⟩
  · have hne : ((bs.length : Int) == 0) = false := by rw [beq_eq_false_iff_ne]; omega
    have hlt : (i * 5 + 1) % bs.length < bs.length := Nat.mod_lt _ (by omega)
    obtain ⟨j, hj⟩ : ∃ j, j = (i * 5 + 1) % bs.length := ⟨_, rfl⟩
    rw [← hj] at hlt
    have hmod : ((i : Int) * 5 + 1) % (bs.length : Int) = (j : Int) := by rw [hj, Int.natCast_emod]; rfl
    have HV := hid (show atV bs i = bs[j] by unfold atV; rw [if_neg h0, ← hj, List.getD_eq_getElem?_getD, List.getElem?_eq_getElem hlt]; rfl)
    obtain ⟨b, off, rfl, hc⟩ := hl.at_ (j := j) (by simpa using hlt)
    have hbyte := hc j _ (by rw [List.getElem?_map, List.getElem?_eq_getElem hlt]; rfl)
    have hbz := HZ.out _ (List.getElem_mem hlt)
    generalize bs[j] = y at hbyte hbz HV
    clear hc hj
    (unfold Gives; go_enter Try.func18, Try.ntmps18)
    go_wp2_with fail
    go_ret
    exact ⟨by rw [HV.out]; rfl, by repeat (first | exact Ext.refl _ | refine Ext.alloc ?_ _ | assumption | refine Ext.over ?_ _ | refine Ext.drew ?_ | refine Ext.drewN ?_ _)⟩
end Go.Proofs.Ytelmpiaaaffmlaa
