/- Walks of the helpers of the laws: copies, comparisons, marks. No condition but sizes. -/
import Derived.Test.YtkifapcegiajiaaRows
import Derived.Test.YtkifapcegiajiaaRowM
import Derived.Test.YtkifapcegiajiaaPush
import Derived.Test.YtkifapcegiajiaaOn
namespace Go.Proofs.Ytkifapcegiajiaa
open Go.RowKit

/-! ### Point -/
theorem toPoint_any (a : Int) (b : Int) (w : World) : Gives Try.prog 9 #[.agg #[.int .i64 a, .int .i64 b]] w (.agg #[.int .i64 a, .int .i64 b]) := by
  (unfold Gives; go_enter Try.func9, Try.ntmps9)
  go_wp2_with fail
  refine bodyPost_ret (v := .agg #[.int .i64 a, .int .i64 b]) (by simp [results, Try.results9, go_sem]) rfl ⟨rfl, ?_⟩
  repeat (first | exact Ext.refl _ | refine Ext.alloc ?_ _ | assumption | refine Ext.over ?_ _ | refine Ext.drew ?_ | refine Ext.drewN ?_ _)
theorem eqPoint_same (a : Int) (b : Int) (w : World) : Gives Try.prog 69 #[.agg #[.int .i64 a, .int .i64 b], .agg #[.int .i64 a, .int .i64 b]] w (.bool true) := by
  (unfold Gives; go_enter Try.func69, Try.ntmps69)
  go_wp2_with fail
  all_goals (go_ret; refine ⟨by first | rfl | (go_tidy; simp_all; done) | (go_tidy; simp at *; omega), ?_⟩; repeat (first | exact Ext.refl _ | refine Ext.alloc ?_ _ | assumption | refine Ext.over ?_ _ | refine Ext.drew ?_ | refine Ext.drewN ?_ _))

theorem szPointS_any (A : Option Addr) (n c : Nat) (left : Int) (w : World) (hn : n ≤ 9223372036854775807) (h1 : left ≤ 1048576) (h0 : 0 ≤ left) :
    Gives Try.prog 32 #[.slice A n c, .int .i64 left] w (.int .i64 (if (n : Int) ≤ left then left - n else -1)) := by
  (unfold Gives; go_enter Try.func32, Try.ntmps32)
  go_wp2_with fail
  all_goals (go_ret; refine ⟨by first | rfl | (go_tidy; simp_all; done) | (go_tidy; simp at *; omega), ?_⟩; repeat (first | exact Ext.refl _ | refine Ext.alloc ?_ _ | assumption | refine Ext.over ?_ _ | refine Ext.drew ?_ | refine Ext.drewN ?_ _))
theorem szPointS_ok (A : Option Addr) (n c : Nat) (left : Int) (w : World) (hn : (n : Int) ≤ left) (h1 : left ≤ 1048576) :
    Gives Try.prog 32 #[.slice A n c, .int .i64 left] w (.int .i64 (left - n)) := by
  have := szPointS_any A n c left w (by omega) h1 (by omega)
  rwa [if_pos hn] at this
theorem szPointS_no (A : Option Addr) (n c : Nat) (left : Int) (w : World) (hn : left < (n : Int)) (hn' : n ≤ 9223372036854775807) (h1 : left ≤ 1048576) (h0 : 0 ≤ left) :
    Gives Try.prog 32 #[.slice A n c, .int .i64 left] w (.int .i64 (-1)) := by
  have := szPointS_any A n c left w hn' h1 h0
  rwa [if_neg (by omega)] at this
theorem info_Point : (Try.prog.info? 35).map (fun i => (i.zero, i.size, i.bytes)) = some (some (.agg #[.int .i64 0, .int .i64 0]), 2, 16) := by kernel_rfl
theorem toPointS_any (A : Option Addr) (n c : Nat) (l : List T2) (w : World) (hl : Row w A (l.flatMap T2.v)) (hn : l.length = n) (hx : n ≤ 1048577) :
    Calls Try.prog 36 #[.slice A n c] w fun e w' => ∃ A' c', e = .returned (.slice A' n c') ∧ w'.ownsRow w.heap.size 35 2 (.slice A' n c') n (l.flatMap T2.v) ∧ Ext w w' := by
  subst hn
  obtain ⟨i0, hi, hz0, hz1, hz2⟩ := info_parts info_Point
  go_enter Try.func36, Try.ntmps36
  go_wp2_with (at_make; refine wpList_make_full _ rfl (.tmp 6) (.tmp 6) 31 rfl w.heap.size 35 i0 _ 2 Try.underlying31 hi hz0 hz1 _ _ _ _ l.length rfl rfl rfl rfl (by rw [hz2]; omega) (by unfold maxLen; omega) (Nat.le_refl _) ?_)
  intro w1 hown hg
  have he1 : Ext w w1 := (Below.refl _ _).grown hg (Nat.le_refl _) (by simp)
  have HO := hid hown
  have HE := hid he1
  clear hown he1 hg hz0 hz1 hz2 hi
  go_wp2_with fail
  go_loopw [4] (fun i wr => ∃ (k : Nat) (cs : List Value), k ≤ l.length ∧ i = .int .i64 k ∧ wr.ownsRow w.heap.size 35 2 (.slice (some ⟨w.heap.size, 0, none⟩) l.length l.length) l.length cs ∧ Filled T2.v 2 l k cs ∧ Ext w wr) (fun i _ => l.length - (intOf i).toNat)
  case atStart => exact ⟨0, _, by omega, rfl, HO.out, Filled.zero _ _ _ _, HE.out⟩
  case round =>
    obtain ⟨k, cs, hk, rfl, hown, hfil, he⟩ := hrel
    clear HO HE
    have HO := hid hown
    have HF := hid hfil
    have HE := hid he
    by_cases hlt : k < l.length
    · obtain ⟨b, off, hA, hc⟩ := (hl.ext he).t2 hlt
      subst hA
      obtain ⟨c0, c1⟩ := hc k hlt
      obtain ⟨u0, o0, f0⟩ := own_some hown (k * 2) (by omega)
      obtain ⟨u1, o1, f1⟩ := own_some hown (k * 2 + 1) (by omega)
      clear hc hown hfil he hl
      go_wp2_with (go_at_call 9; refine (toPoint_any _ _ _).over.mono ?_; rintro e w' ⟨rfl, xw, rfl⟩)
      go_roundw
      case rel =>
        obtain ⟨cs', a1, a2, a3⟩ := own_step2 HO.out HF.out hlt rfl HE.out (Nat.le_refl _) _
        exact ⟨k + 1, cs', by omega, by go_num, a1, a2, a3⟩
      case measure => simp only [intOf]; omega
    · go_wp2_with fail
      go_ret
      obtain rfl : k = l.length := by omega
      have hd := HF.out.done T2.len HO.out.1
      exact ⟨_, _, rfl, hd ▸ HO.out, HE.out⟩
theorem eqPointS_same (A B : Option Addr) (n c d : Nat) (l : List T2) (w : World) (hl : Row w A (l.flatMap T2.v)) (hl' : Row w B (l.flatMap T2.v)) (hn : l.length = n) (hx : n ≤ 9223372036854775807) :
    Gives Try.prog 40 #[.slice A n c, .slice B n d] w (.bool true) := by
  subst hn
  (unfold Gives; go_enter Try.func40, Try.ntmps40)
  go_wp2_with fail
  go_loopw [5] (fun i wr => ∃ (k : Nat), k ≤ l.length ∧ i = .int .i64 k ∧ Ext w wr) (fun i _ => l.length - (intOf i).toNat)
  case atStart => exact ⟨0, by omega, rfl, Ext.refl _⟩
  case round =>
    obtain ⟨k, hk, rfl, he⟩ := hrel
    have HE := hid he
    by_cases hlt : k < l.length
    · obtain ⟨b, off, hA, hc⟩ := (hl.ext he).t2 hlt
      subst hA
      obtain ⟨c0, c1⟩ := hc k hlt
      obtain ⟨b', off', hB, hc'⟩ := (hl'.ext he).t2 hlt
      subst hB
      obtain ⟨d0, d1⟩ := hc' k hlt
      clear hc hc' he hl hl'
      go_wp2_with fail
      (refine wp_region_calm (by kernel_rfl) (by kernel_rfl) ?_; (repeat (go_big_quiet_step ((go_at_call 69; exact (eqPoint_same _ _ _).calm)))); refine wpQuiet_nil ?_; rintro w1 ⟨x1, rfl⟩)
      go_wp2_with fail
      go_roundw
      case rel => exact ⟨k + 1, by omega, by go_num, HE.out.over _⟩
      case measure => simp only [intOf]; omega
    · go_wp2_with fail
      go_ret
      exact ⟨rfl, HE.out⟩

theorem own_far {w : World} {base n size : Nat} {e : TypeId} {v : Value} {cs : List Value} (h : w.ownsRow base e size v n cs) {p : Addr} (hp : p.block < base) (u : Value) : (w.setCell p u).ownsRow base e size v n cs :=
  h.kept (only_setCell (World.grownBy.refl _ _) (g := p.block) (.inl rfl) u) (.inr fun h1 => by have := (h.lt _ h1).1; omega)
theorem szRoom_ok (A : Option Addr) (n c : Nat) (left : Int) (w : World) (hn : (n : Int) ≤ left) (h1 : left ≤ 1048576) :
    Gives Try.prog 6 #[.agg #[.slice A n c], .int .i64 left] w (.int .i64 (left - n)) := by
  have hb : ¬ ((left - (n : Int)) < 0) := by omega
  (unfold Gives; go_enter Try.func6, Try.ntmps6)
  go_wp2_with (go_at_call 32; refine (szPointS_ok _ _ _ _ _ hn h1).over.mono ?_; rintro e w' ⟨rfl, xw, rfl⟩)
  go_ret
  exact ⟨rfl, by repeat (first | exact Ext.refl _ | refine Ext.alloc ?_ _ | assumption | refine Ext.over ?_ _ | refine Ext.drew ?_ | refine Ext.drewN ?_ _)⟩
theorem szRoom_no (A : Option Addr) (n c : Nat) (left : Int) (w : World) (hn : left < (n : Int)) (hn' : n ≤ 9223372036854775807) (h1 : left ≤ 1048576) (h0 : 0 ≤ left) :
    Gives Try.prog 6 #[.agg #[.slice A n c], .int .i64 left] w (.int .i64 (-1)) := by
  (unfold Gives; go_enter Try.func6, Try.ntmps6)
  go_wp2_with (go_at_call 32; refine (szPointS_no _ _ _ _ _ hn hn' h1 h0).over.mono ?_; rintro e w' ⟨rfl, xw, rfl⟩)
  go_ret
  exact ⟨rfl, by repeat (first | exact Ext.refl _ | refine Ext.alloc ?_ _ | assumption | refine Ext.over ?_ _ | refine Ext.drew ?_ | refine Ext.drewN ?_ _)⟩
theorem toRoom_any (A : Option Addr) (n c : Nat) (l : List T2) (w : World) (hl : Row w A (l.flatMap T2.v)) (hn : l.length = n) (hx : n ≤ 1048577) :
    Calls Try.prog 8 #[.agg #[.slice A n c]] w fun e w' => ∃ A' c', e = .returned (.agg #[.slice A' n c']) ∧ w'.ownsRow w.heap.size 35 2 (.slice A' n c') n (l.flatMap T2.v) ∧ Ext w w' := by
  go_enter Try.func8, Try.ntmps8
  go_wp2_with fail
  refine (toPointS_any A n c l _ (hl.ext (by repeat (first | exact Ext.refl _ | refine Ext.alloc ?_ _ | assumption | refine Ext.over ?_ _ | refine Ext.drew ?_ | refine Ext.drewN ?_ _))) hn hx).mono ?_
  rintro _ w2 ⟨A', c', rfl, ho, he⟩
  have b1 := old_cell he (show World.cell? _ ⟨w.heap.size + 1 + 1, 0, none⟩ = some (.slice none 0 0) by go_simp)
  have f1 := old_froz he (show World.cell? _ ⟨w.heap.size + 1 + 1, 0, none⟩ = some (.slice none 0 0) by go_simp) (by go_simp)
  have d1 := old_cell he (show World.cell? _ ⟨w.heap.size + 1, 0, none⟩ = some (.slice none 0 0) by go_simp)
  have g1 := old_froz he (show World.cell? _ ⟨w.heap.size + 1, 0, none⟩ = some (.slice none 0 0) by go_simp) (by go_simp)
  have HE := hid (show Ext w w2 from Ext.trans (by repeat (first | exact Ext.refl _ | refine Ext.alloc ?_ _ | assumption | refine Ext.over ?_ _ | refine Ext.drew ?_ | refine Ext.drewN ?_ _)) he)
  have HO := hid ho
  clear ho he
  go_wp2_with fail
  refine bodyPost_ret (v := .agg #[.slice A' n c']) (by first | (simp [results, Try.results8, go_sem, d1]; done) | (unfold results; rw [Try.results8]; go_simp)) rfl ?_
  refine ⟨_, _, rfl, own_base (own_far (own_far HO.out (p := ⟨w.heap.size + 1 + 1, 0, none⟩) (by first | (simp; done) | (simp; omega) | omega) _) (by first | (simp; done) | (simp; omega) | omega) _) (by first | (simp; done) | (simp; omega) | omega), (HE.out.setCell (by first | (simp; done) | (simp; omega) | omega) _).setCell (by first | (simp; done) | (simp; omega) | omega) _⟩
theorem eqRoom_same (A B : Option Addr) (n c d : Nat) (l : List T2) (w : World) (hl : Row w A (l.flatMap T2.v)) (hl' : Row w B (l.flatMap T2.v)) (hn : l.length = n) (hx : n ≤ 1048577) :
    Gives Try.prog 12 #[.agg #[.slice A n c], .agg #[.slice B n d]] w (.bool true) := by
  (unfold Gives; go_enter Try.func12, Try.ntmps12)
  go_wp2_with (go_at_call 40; refine (eqPointS_same _ _ _ _ _ l _ (hl.ext (by repeat (first | exact Ext.refl _ | refine Ext.alloc ?_ _ | assumption | refine Ext.over ?_ _ | refine Ext.drew ?_ | refine Ext.drewN ?_ _))) (hl'.ext (by repeat (first | exact Ext.refl _ | refine Ext.alloc ?_ _ | assumption | refine Ext.over ?_ _ | refine Ext.drew ?_ | refine Ext.drewN ?_ _))) hn (by omega)).over.mono ?_; rintro e w' ⟨rfl, xw, rfl⟩)
  go_ret
  exact ⟨rfl, by repeat (first | exact Ext.refl _ | refine Ext.alloc ?_ _ | assumption | refine Ext.over ?_ _ | refine Ext.drew ?_ | refine Ext.drewN ?_ _)⟩
end Go.Proofs.Ytkifapcegiajiaa
