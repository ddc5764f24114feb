/- Walks: slices.Repeat of one number. Conditions: 1 to 11 times. -/
import Derived.Test.YtkifapcegiajiaaPieceS
import Derived.Laws.CopyOwn
import Derived.Deep.RegionLaw
namespace Go.Proofs.Ytkifapcegiajiaa
open Go.RowKit
set_option linter.unusedVariables false

set_option maxHeartbeats 1600000 in
theorem Mul64_one (n : Nat) (h1 : 1 ≤ n) (h7 : n ≤ 11) (w : World) : Calls Try.prog 101 #[.int .u64 1, .int .u64 n] w fun e w' => e = .returned (.tuple #[.int .u64 0, .int .u64 n]) ∧ w = w' := by
  have h : n = 1 ∨ n = 2 ∨ n = 3 ∨ n = 4 ∨ n = 5 ∨ n = 6 ∨ n = 7 ∨ n = 8 ∨ n = 9 ∨ n = 10 ∨ n = 11 := by omega
  rcases h with rfl | rfl | rfl | rfl | rfl | rfl | rfl | rfl | rfl | rfl | rfl
  all_goals
    go_enter Try.func101, Try.ntmps101
    go_wp2_with fail
    go_ret2
    exact ⟨rfl, rfl⟩
theorem Mul_one (n : Nat) (h1 : 1 ≤ n) (h7 : n ≤ 11) (w : World) : Calls Try.prog 87 #[.int .u64 1, .int .u64 n] w fun e w' => e = .returned (.tuple #[.int .u64 0, .int .u64 n]) ∧ w = w' := by
  go_enter Try.func87, Try.ntmps87
  go_wp2_with (go_at_call 101; refine (Mul64_one n h1 h7 _).mono ?_; rintro _ _ ⟨rfl, rfl⟩)
  go_ret2
  exact ⟨rfl, rfl⟩
set_option maxHeartbeats 400000 in
set_option maxRecDepth 100000 in
theorem Repeat_any (n gx cx : Nat) (w : World) (h1 : 1 ≤ n) (h7 : n ≤ 11) (hx : w.cell? ⟨gx, 0, none⟩ = some (.int .i64 (-1))) :
    Calls Try.prog 64 #[.slice (some ⟨gx, 0, none⟩) 1 cx, .int .i64 n] w fun e w' => ∃ g, e = .returned (.slice (some ⟨g, 0, none⟩) n n) ∧ w'.ownsRow w.heap.size 3 1 (.slice (some ⟨g, 0, none⟩) n n) n (List.replicate n (.int .i64 (-1))) ∧ Ext w w' := by
  obtain ⟨i0, hi, hz0, hz1, hz2⟩ := info_parts info_intP
  go_enter Try.func64, Try.ntmps64
  go_wp2_with fail
  refine (Mul_one n h1 h7 _).mono ?_
  rintro _ _ ⟨rfl, rfl⟩
  go_wp2_with (at_make; refine wpList_make_full _ rfl (.tmp 29) (.tmp 29) 28 rfl w.heap.size 3 i0 _ 1 Try.underlying28 hi hz0 hz1 _ _ _ _ n rfl rfl rfl rfl (by rw [hz2]; omega) (by unfold maxLen; omega) (Nat.le_refl _) ?_)
  intro w1 hown hg
  have he1 : Ext w w1 := (Below.refl _ _).grown hg (Nat.le_refl _) (by simp)
  have HE1 := hid he1
  have hxc := hid ((Below.cell he1 (World.block_lt_of_cell? w _ hx)).trans hx)
  rcases hown.2 with ⟨hv, _⟩ | ⟨g0, cap, cur0, hv, _, hb, _, _, hsz, _⟩
  · cases hv
  injection hv with e1 e2 e3
  injection e1 with e1
  injection e1 with e1
  subst e1 e3
  have HB := hid (show w1.heap[w.heap.size]? = some (.cells cur0.toList.toArray 3 (0, 0)) by simpa using hb)
  have HL := hid (show cur0.toList.length = n by simpa using hsz)
  clear hown hg hb hsz he1 hx hz0 hz1 hz2 hi
  go_wp2_with (refine wpList_copy_splice rfl (.tmp 31) (.tmp 32) 28 28 rfl 3 Try.underlying28 (by kernel_rfl) _ _ _ _ _ _ rfl rfl w.heap.size 0 cur0.toList 3 HB.out [.int .i64 (-1)] (show 1 = Nat.min 1 n by unfold Nat.min; omega) (fun _ => ⟨rfl, ⟨gx, 0, none⟩, rfl, fun j v hj => by
      have hj0 : j = 0 := by have := (List.getElem?_eq_some_iff.1 hj).1; simpa using this
      subst hj0
      rw [show (⟨gx, 0, none⟩ : Addr).add 0 = ⟨gx, 0, none⟩ from rfl, hxc.out]
      simpa using hj⟩) (by rw [HL.out]; exact h1) (by simp [Value.oneCell']) w.heap.size w HE1.out (Nat.le_refl _) ?_)
  intro w2 hb2 he2
  have HM := hid (show Minus 1 (splice cur0.toList 0 [.int .i64 (-1)]) from fun j hj => by
    obtain rfl : j = 0 := by omega
    have hl := HL.out
    simp [splice])
  have HL2 := hid (show (splice cur0.toList 0 [.int .i64 (-1)]).length = n by have hl := HL.out; unfold splice; simp only [List.length_append, List.length_take, List.length_drop, List.length_cons, List.length_nil] at hl ⊢; omega)
  clear HB HL hxc HE1
  go_wp2_with fail
  go_loopw [8] (fun q wr => ∃ (q0 : Nat) (cs : List Value), q = .int .i64 ↑q0 ∧ 1 ≤ q0 ∧ q0 ≤ n ∧ wr.heap[w.heap.size]? = some (.cells cs.toArray 3 (0, 0)) ∧ cs.length = n ∧ Minus q0 cs ∧ Ext w wr) (fun q _ => n - (intOf q).toNat)
  case atStart => exact ⟨1, _, rfl, by omega, h1, hb2.out, HL2.out, HM.out, he2⟩
  case round =>
    obtain ⟨q, cs, rfl, hq1, hqn, hb, hl, hm, he⟩ := hrel
    have HB := hid hb
    have HL := hid hl
    have HM' := hid hm
    have HE := hid he
    clear hb hl hm he hb2 HM HL2 he2
    by_cases hlt : q < n
    · have HC := hid (show (cs.take (Nat.min q (n - q))).length = Nat.min q (n - q) by rw [List.length_take, HL.out]; unfold Nat.min; omega)
      have HCA := hid (show ∀ j v, (cs.take (Nat.min q (n - q)))[j]? = some v → j < q ∧ v = .int .i64 (-1) from fun j v hj => by
        have hjl := (List.getElem?_eq_some_iff.1 hj).1
        rw [HC.out] at hjl
        have hjq : j < q := Nat.lt_of_lt_of_le hjl (Nat.min_le_left _ _)
        rw [List.getElem?_take_of_lt hjl, HM'.out j hjq] at hj
        exact ⟨hjq, by injection hj with hj; exact hj.symm⟩)
      have HCELL := hid (show ∀ j, j < q → wr.drew.cell? ⟨w.heap.size, j, none⟩ = some (.int .i64 (-1)) from fun j hj => by
        have := cell_of_row wr w.heap.size j cs.toArray 3 (0, 0) HB.out
        rw [World.cell?_drew, this]
        simpa using HM'.out j hj)
      have hmin : Nat.min q (n - q) ≤ n - q := Nat.min_le_right _ _
      go_wp2_with fail
      have hne : ¬ (n = q) := by omega
      go_region_law (refine step_copy_splice rfl (.tmp 41) (.tmp 44) 28 28 rfl 3 Try.underlying28 (by kernel_rfl) (some ⟨w.heap.size, q, none⟩) (some ⟨w.heap.size, 0, none⟩) (n - q) (n - q) q n (by go_simp) (by go_simp) w.heap.size q cs 3 HB.out (cs.take (Nat.min q (n - q))) HC.out (fun _ => ⟨rfl, ⟨w.heap.size, 0, none⟩, rfl, fun j v hj => by
        obtain ⟨h1, h2⟩ := HCA.out j v hj
        rw [show (⟨w.heap.size, 0, none⟩ : Addr).add j = ⟨w.heap.size, j, none⟩ from by unfold Addr.add; split <;> simp_all, HCELL.out j h1, h2]⟩) (by rw [HC.out, HL.out]; omega) (fun v hv => by
        obtain ⟨j, hj⟩ := List.mem_iff_getElem?.1 hv
        rw [(HCA.out j v hj).2]; rfl) w.heap.size w HE.out.drew (Nat.le_refl _) ?_; intro w3 hb3 he3)
      go_simp
      have hwrap : IntKind.i64.wrap (↑q + ↑(min q (min (n - q) cs.length))) = ((q + Nat.min q (n - q) : Nat) : Int) := by
        have hl := HL.out
        rw [IntKind.wrap_i64, show min q (min (n - q) cs.length) = Nat.min q (n - q) from by unfold Nat.min; omega]
        unfold Nat.min; omega
      rw [hwrap]
      go_roundw
      case rel =>
        refine ⟨_, _, _, _, _, _, _, _, _, _, _, _, _, _, ?_, rfl⟩
        refine ⟨q + Nat.min q (n - q), splice cs q (cs.take (Nat.min q (n - q))), ?_, by omega, by omega, hb3.out, ?_, ?_, he3⟩
        · rfl
        · unfold splice; simp only [List.length_append, List.length_take, List.length_drop, HC.out, HL.out]; omega
        · intro j hj
          have hl := HL.out
          have hc := HC.out
          rcases Nat.lt_or_ge j q with h | h
          · unfold splice
            rw [List.getElem?_append_left (by rw [List.length_take]; omega), List.getElem?_take_of_lt h]; exact HM'.out j h
          · have hm : Nat.min q (n - q) ≤ q := Nat.min_le_left q (n - q)
            have hv : (cs.take (Nat.min q (n - q)))[j - q]? = some (.int .i64 (-1)) := by
              rw [List.getElem?_take_of_lt (by omega)]; exact HM'.out _ (by omega)
            unfold splice
            have e : (cs.take q).length = q := by rw [List.length_take]; omega
            rw [List.getElem?_append_right (by omega), e, List.getElem?_append_left (by omega)]; exact hv
      case measure =>
        show n - (((q + Nat.min q (n - q) : Nat) : Int)).toNat < n - ((q : Int)).toNat
        rw [Int.toNat_natCast, Int.toNat_natCast]
        unfold Nat.min; omega
    · go_wp2_with fail
      go_ret
      obtain rfl : q = n := by omega
      refine ⟨_, rfl, ?_, HE.out⟩
      have hr : cs = List.replicate q (.int .i64 (-1)) := by
        apply List.ext_getElem?
        intro j
        rcases Nat.lt_or_ge j q with h | h
        · rw [HM'.out j h]; simp [h]
        · rw [List.getElem?_eq_none (by rw [HL.out]; exact h), List.getElem?_eq_none (by simpa using h)]
      refine ⟨by simp, .inr ⟨w.heap.size, q, cs.toArray, rfl, Nat.le_refl _, HB.out, Nat.le_refl _, by unfold maxLen; omega, by simpa using HL.out, ?_⟩⟩
      rw [← hr, Nat.mul_one]
      exact List.take_of_length_le (by rw [HL.out]; exact Nat.le_refl _)
end Go.Proofs.Ytkifapcegiajiaa
