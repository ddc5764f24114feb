/- Walks: rooms are drawn: numbers, shapes, copies. Conditions: sizes. -/
import Derived.Test.YtkifapcegiajiaaDraw2
import Derived.Test.YtkifapcegiajiaaRowM
import Derived.Test.YtkifapcegiajiaaSpin
namespace Go.Proofs.Ytkifapcegiajiaa
open Go.RowKit
set_option linter.unusedVariables false

set_option maxRecDepth 100000 in
set_option maxHeartbeats 1600000 in
theorem l01BelowB_any (g : Nat) (n : Int) (w : World) (hc : Cur w g) (h1 : 1 ≤ n) (hn : n ≤ 100000) : Calls Try.prog 71 #[.pointer (some ⟨g, 0, none⟩), .int .i64 n] w (DrawsIn w g 0 (n - 1)) := by
  by_cases h256 : n ≤ 256
  · refine (l01Below_any g n w hc h256).mono ?_
    rintro _ w1 ⟨v, rfl, v0, v1, hd⟩
    exact ⟨v, rfl, v0, by omega, hd⟩
  have h0 : ¬ n ≤ 0 := by omega
  go_enter Try.func71, Try.ntmps71
  go_wp2_with fail
  refine (l01Byte_any g w hc).mono ?_
  rintro _ w1 ⟨x, rfl, x0, x1, hd⟩
  have HD := hid hd
  clear hd
  go_wp2_with fail
  refine (l01Byte_any g w1 HD.out.2).mono ?_
  rintro _ w2 ⟨y, rfl, y0, y1, hd⟩
  have HD := hid (HD.out.trans hd)
  clear hd
  go_wp2_with fail
  refine (l01Byte_any g w2 HD.out.2).mono ?_
  rintro _ w3 ⟨z, rfl, z0, z1, hd⟩
  have HD := hid (HD.out.trans hd)
  clear hd
  go_wp2_with fail
  refine (l01Byte_any g w3 HD.out.2).mono ?_
  rintro _ w4 ⟨u, rfl, u0, u1, hd⟩
  have HD := hid (HD.out.trans hd)
  clear hd
  have hm0 := Int.emod_nonneg (x * 16777216 + y * 65536 + z * 256 + u) (show n ≠ 0 by omega)
  have hm1 := Int.emod_lt_of_pos (x * 16777216 + y * 65536 + z * 256 + u) (show 0 < n by omega)
  have htm : (x * 16777216 + y * 65536 + z * 256 + u).tmod n = (x * 16777216 + y * 65536 + z * 256 + u) % n := Int.tmod_eq_emod_of_nonneg (by omega)
  go_wp2_with fail
  go_ret
  exact ⟨(x * 16777216 + y * 65536 + z * 256 + u) % n, by first | rfl | (rw [← htm]; rfl), hm0, by omega, HD.out⟩
theorem info_PointR : (Try.prog.info? 35).map (fun i => (i.zero, i.size, i.bytes)) = some (some (.agg #[.int .i64 0, .int .i64 0]), 2, 16) := by kernel_rfl
theorem own_farR {w : World} {base n size : Nat} {e : TypeId} {v : Value} {cs : List Value} (h : w.ownsRow base e size v n cs) {p : Addr} (hp : p.block < base) (u : Value) : (w.setCell p u).ownsRow base e size v n cs :=
  h.kept (only_setCell (World.grownBy.refl _ _) (g := p.block) (.inl rfl) u) (.inr fun h1 => by have := (h.lt _ h1).1; omega)
theorem lit_own (w : World) (B n size g : Nat) (hg : g = w.heap.size) (cs : Array Value) (e : TypeId) (hB : B ≤ w.heap.size) (hs : cs.size = n * size) (hn : n ≤ 1000000) : (w.alloc (.cells cs e)).ownsRow B e size (.slice (some ⟨g, 0, none⟩) n n) n cs.toList := by
  subst hg
  refine ⟨by simpa using hs, .inr ⟨w.heap.size, n, cs, rfl, hB, heap_alloc_new w _, Nat.le_refl _, by unfold maxLen; omega, hs, ?_⟩⟩
  exact List.take_of_length_le (by rw [Array.length_toList, hs]; exact Nat.le_refl _)
/-- A valid room whose coordinates are at most m. -/
def RoomN (m : Int) (L : List T2) : Prop := roomS L = true ∧ ∀ j, j < L.length → near m (at2 L j)
def shape0 : List T2 := [⟨0, 0⟩, ⟨4, 0⟩, ⟨4, 4⟩, ⟨0, 4⟩]
theorem shape0_ok : RoomN 10 shape0 := ⟨by kernel_rfl, fun j hj => by
  have hj : j < 4 := hj
  rcases (show j = 0 ∨ j = 1 ∨ j = 2 ∨ j = 3 by omega) with rfl | rfl | rfl | rfl <;> (unfold near; decide)⟩
def shape1 : List T2 := [⟨0, 0⟩, ⟨5, 0⟩, ⟨2, 4⟩]
theorem shape1_ok : RoomN 10 shape1 := ⟨by kernel_rfl, fun j hj => by
  have hj : j < 3 := hj
  rcases (show j = 0 ∨ j = 1 ∨ j = 2 by omega) with rfl | rfl | rfl <;> (unfold near; decide)⟩
def shape2 : List T2 := [⟨0, 0⟩, ⟨6, 0⟩, ⟨6, 2⟩, ⟨2, 2⟩, ⟨2, 6⟩, ⟨0, 6⟩]
theorem shape2_ok : RoomN 10 shape2 := ⟨by kernel_rfl, fun j hj => by
  have hj : j < 6 := hj
  rcases (show j = 0 ∨ j = 1 ∨ j = 2 ∨ j = 3 ∨ j = 4 ∨ j = 5 by omega) with rfl | rfl | rfl | rfl | rfl | rfl <;> (unfold near; decide)⟩
def shape3 : List T2 := [⟨0, 0⟩, ⟨8, 0⟩, ⟨8, 6⟩, ⟨4, 2⟩, ⟨0, 6⟩]
theorem shape3_ok : RoomN 10 shape3 := ⟨by kernel_rfl, fun j hj => by
  have hj : j < 5 := hj
  rcases (show j = 0 ∨ j = 1 ∨ j = 2 ∨ j = 3 ∨ j = 4 by omega) with rfl | rfl | rfl | rfl | rfl <;> (unfold near; decide)⟩
def shape4 : List T2 := [⟨0, 0⟩, ⟨10, 0⟩, ⟨10, 5⟩, ⟨8, 1⟩, ⟨5, 5⟩, ⟨2, 1⟩, ⟨0, 5⟩]
theorem shape4_ok : RoomN 10 shape4 := ⟨by kernel_rfl, fun j hj => by
  have hj : j < 7 := hj
  rcases (show j = 0 ∨ j = 1 ∨ j = 2 ∨ j = 3 ∨ j = 4 ∨ j = 5 ∨ j = 6 by omega) with rfl | rfl | rfl | rfl | rfl | rfl | rfl <;> (unfold near; decide)⟩
def shape5 : List T2 := [⟨0, 0⟩, ⟨7, 0⟩, ⟨7, 7⟩, ⟨1, 7⟩, ⟨1, 3⟩, ⟨3, 3⟩, ⟨3, 5⟩, ⟨5, 5⟩, ⟨5, 2⟩, ⟨0, 2⟩]
theorem shape5_ok : RoomN 10 shape5 := ⟨by kernel_rfl, fun j hj => by
  have hj : j < 10 := hj
  rcases (show j = 0 ∨ j = 1 ∨ j = 2 ∨ j = 3 ∨ j = 4 ∨ j = 5 ∨ j = 6 ∨ j = 7 ∨ j = 8 ∨ j = 9 by omega) with rfl | rfl | rfl | rfl | rfl | rfl | rfl | rfl | rfl | rfl <;> (unfold near; decide)⟩
def shape6 : List T2 := [⟨0, 0⟩, ⟨4, 2⟩, ⟨8, 0⟩, ⟨5, 3⟩, ⟨4, 7⟩, ⟨3, 3⟩]
theorem shape6_ok : RoomN 10 shape6 := ⟨by kernel_rfl, fun j hj => by
  have hj : j < 6 := hj
  rcases (show j = 0 ∨ j = 1 ∨ j = 2 ∨ j = 3 ∨ j = 4 ∨ j = 5 by omega) with rfl | rfl | rfl | rfl | rfl | rfl <;> (unfold near; decide)⟩
def shape7 : List T2 := [⟨0, 0⟩, ⟨6, 1⟩, ⟨7, 4⟩, ⟨3, 6⟩, ⟨1, 3⟩]
theorem shape7_ok : RoomN 10 shape7 := ⟨by kernel_rfl, fun j hj => by
  have hj : j < 5 := hj
  rcases (show j = 0 ∨ j = 1 ∨ j = 2 ∨ j = 3 ∨ j = 4 by omega) with rfl | rfl | rfl | rfl | rfl <;> (unfold near; decide)⟩
set_option maxRecDepth 100000 in
set_option maxHeartbeats 3200000 in
theorem l04Shape_any (k : Int) (hk : 0 ≤ k ∧ k ≤ 7) (w : World) : Calls Try.prog 70 #[.int .i64 k] w fun e w' => ∃ (A : Option Addr) (n : Nat) (L : List T2), e = .returned (.agg #[.slice A n n]) ∧ L.length = n ∧ RoomN 10 L ∧ w'.ownsRow w.heap.size 35 2 (.slice A n n) n (L.flatMap T2.v) ∧ Ext w w' := by
  rcases (show k = 0 ∨ k = 1 ∨ k = 2 ∨ k = 3 ∨ k = 4 ∨ k = 5 ∨ k = 6 ∨ k = 7 by omega) with rfl | rfl | rfl | rfl | rfl | rfl | rfl | rfl
  · go_enter Try.func70, Try.ntmps70
    go_wp2_with fail
    refine bodyPost_ret (v := .agg #[.slice (some ⟨w.heap.size + 1, 0, none⟩) 4 4]) (by first | (simp [results, Try.results70, go_sem]; done) | (unfold results; rw [Try.results70]; go_simp)) rfl ?_
    refine ⟨_, 4, shape0, rfl, rfl, shape0_ok, own_base (lit_own (w.alloc _) (w.heap.size + 1) 4 2 (w.heap.size + 1) (by simp) #[.int .i64 0, .int .i64 0, .int .i64 4, .int .i64 0, .int .i64 4, .int .i64 4, .int .i64 0, .int .i64 4] 35 (by simp) rfl (by omega)) (Nat.le_succ _), ?_⟩
    repeat (first | exact Ext.refl _ | refine Ext.alloc ?_ _ | assumption | refine Ext.over ?_ _ | refine Ext.drew ?_ | refine Ext.drewN ?_ _)
  · go_enter Try.func70, Try.ntmps70
    go_wp2_with fail
    refine bodyPost_ret (v := .agg #[.slice (some ⟨w.heap.size + 1, 0, none⟩) 3 3]) (by first | (simp [results, Try.results70, go_sem]; done) | (unfold results; rw [Try.results70]; go_simp)) rfl ?_
    refine ⟨_, 3, shape1, rfl, rfl, shape1_ok, own_base (lit_own (w.alloc _) (w.heap.size + 1) 3 2 (w.heap.size + 1) (by simp) #[.int .i64 0, .int .i64 0, .int .i64 5, .int .i64 0, .int .i64 2, .int .i64 4] 35 (by simp) rfl (by omega)) (Nat.le_succ _), ?_⟩
    repeat (first | exact Ext.refl _ | refine Ext.alloc ?_ _ | assumption | refine Ext.over ?_ _ | refine Ext.drew ?_ | refine Ext.drewN ?_ _)
  · go_enter Try.func70, Try.ntmps70
    go_wp2_with fail
    refine bodyPost_ret (v := .agg #[.slice (some ⟨w.heap.size + 1, 0, none⟩) 6 6]) (by first | (simp [results, Try.results70, go_sem]; done) | (unfold results; rw [Try.results70]; go_simp)) rfl ?_
    refine ⟨_, 6, shape2, rfl, rfl, shape2_ok, own_base (lit_own (w.alloc _) (w.heap.size + 1) 6 2 (w.heap.size + 1) (by simp) #[.int .i64 0, .int .i64 0, .int .i64 6, .int .i64 0, .int .i64 6, .int .i64 2, .int .i64 2, .int .i64 2, .int .i64 2, .int .i64 6, .int .i64 0, .int .i64 6] 35 (by simp) rfl (by omega)) (Nat.le_succ _), ?_⟩
    repeat (first | exact Ext.refl _ | refine Ext.alloc ?_ _ | assumption | refine Ext.over ?_ _ | refine Ext.drew ?_ | refine Ext.drewN ?_ _)
  · go_enter Try.func70, Try.ntmps70
    go_wp2_with fail
    refine bodyPost_ret (v := .agg #[.slice (some ⟨w.heap.size + 1, 0, none⟩) 5 5]) (by first | (simp [results, Try.results70, go_sem]; done) | (unfold results; rw [Try.results70]; go_simp)) rfl ?_
    refine ⟨_, 5, shape3, rfl, rfl, shape3_ok, own_base (lit_own (w.alloc _) (w.heap.size + 1) 5 2 (w.heap.size + 1) (by simp) #[.int .i64 0, .int .i64 0, .int .i64 8, .int .i64 0, .int .i64 8, .int .i64 6, .int .i64 4, .int .i64 2, .int .i64 0, .int .i64 6] 35 (by simp) rfl (by omega)) (Nat.le_succ _), ?_⟩
    repeat (first | exact Ext.refl _ | refine Ext.alloc ?_ _ | assumption | refine Ext.over ?_ _ | refine Ext.drew ?_ | refine Ext.drewN ?_ _)
  · go_enter Try.func70, Try.ntmps70
    go_wp2_with fail
    refine bodyPost_ret (v := .agg #[.slice (some ⟨w.heap.size + 1, 0, none⟩) 7 7]) (by first | (simp [results, Try.results70, go_sem]; done) | (unfold results; rw [Try.results70]; go_simp)) rfl ?_
    refine ⟨_, 7, shape4, rfl, rfl, shape4_ok, own_base (lit_own (w.alloc _) (w.heap.size + 1) 7 2 (w.heap.size + 1) (by simp) #[.int .i64 0, .int .i64 0, .int .i64 10, .int .i64 0, .int .i64 10, .int .i64 5, .int .i64 8, .int .i64 1, .int .i64 5, .int .i64 5, .int .i64 2, .int .i64 1, .int .i64 0, .int .i64 5] 35 (by simp) rfl (by omega)) (Nat.le_succ _), ?_⟩
    repeat (first | exact Ext.refl _ | refine Ext.alloc ?_ _ | assumption | refine Ext.over ?_ _ | refine Ext.drew ?_ | refine Ext.drewN ?_ _)
  · go_enter Try.func70, Try.ntmps70
    go_wp2_with fail
    refine bodyPost_ret (v := .agg #[.slice (some ⟨w.heap.size + 1, 0, none⟩) 10 10]) (by first | (simp [results, Try.results70, go_sem]; done) | (unfold results; rw [Try.results70]; go_simp)) rfl ?_
    refine ⟨_, 10, shape5, rfl, rfl, shape5_ok, own_base (lit_own (w.alloc _) (w.heap.size + 1) 10 2 (w.heap.size + 1) (by simp) #[.int .i64 0, .int .i64 0, .int .i64 7, .int .i64 0, .int .i64 7, .int .i64 7, .int .i64 1, .int .i64 7, .int .i64 1, .int .i64 3, .int .i64 3, .int .i64 3, .int .i64 3, .int .i64 5, .int .i64 5, .int .i64 5, .int .i64 5, .int .i64 2, .int .i64 0, .int .i64 2] 35 (by simp) rfl (by omega)) (Nat.le_succ _), ?_⟩
    repeat (first | exact Ext.refl _ | refine Ext.alloc ?_ _ | assumption | refine Ext.over ?_ _ | refine Ext.drew ?_ | refine Ext.drewN ?_ _)
  · go_enter Try.func70, Try.ntmps70
    go_wp2_with fail
    refine bodyPost_ret (v := .agg #[.slice (some ⟨w.heap.size + 1, 0, none⟩) 6 6]) (by first | (simp [results, Try.results70, go_sem]; done) | (unfold results; rw [Try.results70]; go_simp)) rfl ?_
    refine ⟨_, 6, shape6, rfl, rfl, shape6_ok, own_base (lit_own (w.alloc _) (w.heap.size + 1) 6 2 (w.heap.size + 1) (by simp) #[.int .i64 0, .int .i64 0, .int .i64 4, .int .i64 2, .int .i64 8, .int .i64 0, .int .i64 5, .int .i64 3, .int .i64 4, .int .i64 7, .int .i64 3, .int .i64 3] 35 (by simp) rfl (by omega)) (Nat.le_succ _), ?_⟩
    repeat (first | exact Ext.refl _ | refine Ext.alloc ?_ _ | assumption | refine Ext.over ?_ _ | refine Ext.drew ?_ | refine Ext.drewN ?_ _)
  · go_enter Try.func70, Try.ntmps70
    go_wp2_with fail
    refine bodyPost_ret (v := .agg #[.slice (some ⟨w.heap.size + 1, 0, none⟩) 5 5]) (by first | (simp [results, Try.results70, go_sem]; done) | (unfold results; rw [Try.results70]; go_simp)) rfl ?_
    refine ⟨_, 5, shape7, rfl, rfl, shape7_ok, own_base (lit_own (w.alloc _) (w.heap.size + 1) 5 2 (w.heap.size + 1) (by simp) #[.int .i64 0, .int .i64 0, .int .i64 6, .int .i64 1, .int .i64 7, .int .i64 4, .int .i64 3, .int .i64 6, .int .i64 1, .int .i64 3] 35 (by simp) rfl (by omega)) (Nat.le_succ _), ?_⟩
    repeat (first | exact Ext.refl _ | refine Ext.alloc ?_ _ | assumption | refine Ext.over ?_ _ | refine Ext.drew ?_ | refine Ext.drewN ?_ _)
theorem one2 {l : List T2} : ∀ u ∈ l.flatMap T2.v, u.oneCell' = true := by
  intro u hu
  obtain ⟨x, _, hx⟩ := List.mem_flatMap.1 hu
  simp only [T2.v, List.mem_cons, List.not_mem_nil, or_false] at hx
  rcases hx with rfl | rfl <;> rfl
set_option maxRecDepth 100000 in
set_option maxHeartbeats 1600000 in
theorem l04Copy_any (A : Option Addr) (n c : Nat) (L : List T2) (w : World) (hl : Row w A (L.flatMap T2.v)) (hn : L.length = n) (hx : n ≤ 1048577) (hnone : A = none → c = 0) : Calls Try.prog 72 #[.agg #[.slice A n c]] w fun e w' => ∃ (B : Option Addr) (d : Nat), e = .returned (.agg #[.slice B n d]) ∧ w'.ownsRow w.heap.size 35 2 (.slice B n d) n (L.flatMap T2.v) ∧ Ext w w' := by
  subst hn
  have HL := hid hl
  clear hl
  go_enter Try.func72, Try.ntmps72
  obtain ⟨wb, hwb⟩ : ∃ wb, wb = (w.alloc (.cells #[.slice A L.length c] 33)).alloc (.cells #[.slice none 0 0] 33) := ⟨_, rfl⟩
  have EB : Ext w wb := by rw [hwb]; repeat (first | exact Ext.refl _ | refine Ext.alloc ?_ _ | assumption | refine Ext.over ?_ _ | refine Ext.drew ?_ | refine Ext.drewN ?_ _)
  have b0 : wb.cell? ⟨w.heap.size, 0, none⟩ = some (.slice A L.length c) := by rw [hwb]; go_simp
  have b1 : wb.cell? ⟨w.heap.size + 1, 0, none⟩ = some (.slice none 0 0) := by rw [hwb]; go_simp
  have f1 : wb.frozen? ⟨w.heap.size + 1, 0, none⟩ = false := by rw [hwb]; go_simp
  have HSZ := hid (show w.heap.size + 2 = wb.heap.size by rw [hwb]; simp)
  have HO := hid (own_empty wb wb.heap.size wb.heap.size rfl (Nat.le_refl _) 35 2)
  go_wp2_with (at_builtin; refine wpList_pushS ((w.alloc (.cells #[.slice A L.length c] 33)).alloc (.cells #[.slice none 0 0] 33)) rfl (.tmp 3) (.tmp 5) 31 rfl 35 Try.underlying31 info_PointR rfl (by decide) _ 0 [] rfl (((w.alloc (.cells #[.slice A L.length c] 33)).alloc (.cells #[.slice none 0 0] 33)).alloc (.cells #[] 35)) (own_empty _ _ _ (by simp) (Nat.le_refl _) 35 2) (by repeat (first | exact Ext.refl _ | refine Ext.alloc ?_ _ | assumption | refine Ext.over ?_ _ | refine Ext.drew ?_ | refine Ext.drewN ?_ _)) (by repeat (first | exact Ext.refl _ | refine Ext.alloc ?_ _ | assumption | refine Ext.over ?_ _ | refine Ext.drew ?_ | refine Ext.drewN ?_ _)) A L.length c (L.flatMap T2.v) rfl hnone (by rw [flat_len _ 2 T2.len]) (HL.out.ext (by repeat (first | exact Ext.refl _ | refine Ext.alloc ?_ _ | assumption | refine Ext.over ?_ _ | refine Ext.drew ?_ | refine Ext.drewN ?_ _))) one2 (by omega) (by decide) ?_)
  intro A2 c2 w2 ho he
  rw [← hwb] at he
  have ho : w2.ownsRow (w.heap.size + 1 + 1) 35 2 (.slice A2 L.length c2) L.length (L.flatMap T2.v) := by simpa using ho
  have d1 := old_cell he b1
  have g1 := (Below.frozen he (World.block_lt_of_cell? wb _ b1)).trans f1
  have HO2 := hid ho
  have HE := hid (EB.trans he)
  clear ho he hwb b0 b1 f1 HO
  go_wp2_with fail
  have hsz := HSZ.out
  refine bodyPost_ret (v := .agg #[.slice A2 L.length c2]) (by first | (simp [results, Try.results72, go_sem, d1]; done) | (unfold results; rw [Try.results72]; go_simp)) rfl ?_
  exact ⟨A2, c2, rfl, own_base (own_farR HO2.out (p := ⟨w.heap.size + 1, 0, none⟩) (by show w.heap.size + 1 < w.heap.size + 1 + 1; omega) _) (by omega), HE.out.setCell (by show w.heap.size ≤ w.heap.size + 1; omega) _⟩
end Go.Proofs.Ytkifapcegiajiaa
