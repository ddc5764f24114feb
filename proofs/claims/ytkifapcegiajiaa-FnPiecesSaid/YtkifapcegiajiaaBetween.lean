/- Walks: slices.SortFunc at few points, the corners between two points. Conditions: at most 12 points. -/
import Derived.Test.YtkifapcegiajiaaSort
import Derived.Test.YtkifapcegiajiaaFloor
namespace Go.Proofs.Ytkifapcegiajiaa
open Go.RowKit
set_option linter.unusedVariables false

set_option maxHeartbeats 3200000 in
set_option maxRecDepth 100000 in
theorem pdq_any (g n cap base ga : Nat) (z : Int) (a : T2) (key : T2 → Int) (l : List T2) (w : World) (ho : w.ownsRow base 35 2 (.slice (some ⟨g, 0, none⟩) n cap) n (l.flatMap T2.v)) (hx : n ≤ 12)
    (h0 : w.cell? ⟨ga, 0, none⟩ = some (.int .i64 a.a)) (h1 : w.cell? ⟨ga, 1, none⟩ = some (.int .i64 a.b)) (hga : ¬ ga = g) (hkey : ∀ p ∈ l, ∀ q ∈ l, decide (dW a p q < 0) = decide (key p < key q)) :
    Calls Try.prog 102 #[.slice (some ⟨g, 0, none⟩) n cap, .int .i64 0, .int .i64 n, .int .i64 z, cmpV ga] w fun e w' => e = .returned (.tuple #[]) ∧ ∃ l', l'.Perm l ∧ SortK key l' n ∧ w'.ownsRow base 35 2 (.slice (some ⟨g, 0, none⟩) n cap) n (l'.flatMap T2.v) ∧ w.grownBy w' (some g) := by
  have HO := hid ho
  have HK := hid hkey
  clear ho hkey
  have hI := fun w' (hw : w' = w) => insertion_any g n cap base ga a key l w' (hw ▸ HO.out) hx (hw ▸ h0) (hw ▸ h1) hga HK.out
  unfold cmpV at *
  have HI := hid hI
  clear hI
  have hn12 : (n : Int) ≤ 12 := by omega
  go_enter Try.func102, Try.ntmps102
  go_wp2_with fail
  go_loopw [1, 2] (fun av bv wr => av = .int .i64 0 ∧ bv = .int .i64 n ∧ wr = w) (fun _ _ _ => 0)
  case atStart => exact ⟨rfl, rfl, rfl⟩
  case round =>
    obtain ⟨rfl, rfl, rfl⟩ := hrel
    go_wp2_with fail
    refine (HI.out _ rfl).mono ?_
    rintro _ w2 ⟨rfl, hr⟩
    have HR := hid hr
    clear hr
    go_wp2_with fail
    refine bodyPost_ret (v := .tuple #[]) (by first | rfl | (simp [results, Try.results102, go_sem]; done)) rfl ?_
    exact ⟨rfl, HR.out⟩
set_option maxRecDepth 100000 in
theorem len64_any (n : Nat) (hn : n ≤ 12) (w : World) : Calls Try.prog 114 #[.int .u64 n] w fun e w' => ∃ z : Int, e = .returned (.int .i64 z) ∧ Ext w w' := by
  have h : n = 0 ∨ n = 1 ∨ n = 2 ∨ n = 3 ∨ n = 4 ∨ n = 5 ∨ n = 6 ∨ n = 7 ∨ n = 8 ∨ n = 9 ∨ n = 10 ∨ n = 11 ∨ n = 12 := by omega
  rcases h with rfl | rfl | rfl | rfl | rfl | rfl | rfl | rfl | rfl | rfl | rfl | rfl | rfl
  all_goals
    go_enter Try.func114, Try.ntmps114
    go_wp2_with fail
    go_ret
    exact ⟨_, rfl, Ext.refl _⟩
theorem blen_any (n : Nat) (hn : n ≤ 12) (w : World) : Calls Try.prog 103 #[.int .u64 n] w fun e w' => ∃ z : Int, e = .returned (.int .i64 z) ∧ Ext w w' := by
  have hn' : (n : Int) ≤ 12 := by omega
  go_enter Try.func103, Try.ntmps103
  go_wp2_with fail
  refine (len64_any n hn _).mono ?_
  rintro _ w' ⟨z, rfl, he⟩
  go_wp2_with fail
  go_ret
  exact ⟨z, rfl, he⟩
set_option maxHeartbeats 3200000 in
set_option maxRecDepth 100000 in
theorem SortFunc_any (g n cap base ga : Nat) (a : T2) (key : T2 → Int) (l : List T2) (w : World) (ho : w.ownsRow base 35 2 (.slice (some ⟨g, 0, none⟩) n cap) n (l.flatMap T2.v)) (hx : n ≤ 12)
    (h0 : w.cell? ⟨ga, 0, none⟩ = some (.int .i64 a.a)) (h1 : w.cell? ⟨ga, 1, none⟩ = some (.int .i64 a.b)) (hga : ¬ ga = g) (hkey : ∀ p ∈ l, ∀ q ∈ l, decide (dW a p q < 0) = decide (key p < key q)) :
    Calls Try.prog 89 #[.slice (some ⟨g, 0, none⟩) n cap, cmpV ga] w fun e w' => e = .returned (.tuple #[]) ∧ ∃ l', l'.Perm l ∧ SortK key l' n ∧ w'.ownsRow base 35 2 (.slice (some ⟨g, 0, none⟩) n cap) n (l'.flatMap T2.v) ∧ w.grownBy w' (some g) := by
  have HO := hid ho
  have HK := hid hkey
  clear ho hkey
  have hI := fun (z : Int) x => pdq_any g n cap base ga z a key l (ovr w x) (own_ext HO.out (ovr_below _ _)) hx (old_cell (ovr_below _ _) h0) (old_cell (ovr_below _ _) h1) hga HK.out
  unfold cmpV at *
  have HI := hid hI
  clear hI
  go_enter Try.func89, Try.ntmps89
  go_wp2_with fail
  refine (blen_any n hx _).mono ?_
  rintro _ w1 ⟨z, rfl, he⟩
  obtain ⟨x, rfl⟩ := he.ex
  go_wp2_with fail
  refine (HI.out z _).mono ?_
  rintro _ w2 ⟨rfl, l', hp, hs, hown, hg⟩
  have HR := hid (And.intro hp (And.intro hs (And.intro hown (show w.grownBy w2 (some g) from grown_then (ext_grown (ovr_below _ _) (some g)) hg (.inl rfl)))))
  clear hp hs hown hg
  go_wp2_with fail
  go_end0
  exact ⟨rfl, l', HR.out⟩
end Go.Proofs.Ytkifapcegiajiaa
