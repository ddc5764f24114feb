/- Walks of the helpers of the laws: copies, comparisons, marks. No condition but sizes. -/
import Derived.Test.YtbhbpibghjiknaaRows
import Derived.Test.YtbhbpibghjiknaaRowM
namespace Go.Proofs.Ytbhbpibghjiknaa
open Go.RowKit

/-! ### Entry -/
theorem toEntry_any (a : Int) (b : ByteArray) (c : Int) (w : World) : Gives Try.prog 64 #[.agg #[.int .i64 a, .string b, .int .i64 c]] w (.agg #[.int .i64 a, .string b, .int .i64 c]) := by
  (unfold Gives; go_enter Try.func64, Try.ntmps64)
  go_wp2_with fail
  refine bodyPost_ret (v := .agg #[.int .i64 a, .string b, .int .i64 c]) (by simp [results, Try.results64, go_sem]) rfl ⟨rfl, ?_⟩
  repeat (first | exact Ext.refl _ | refine Ext.alloc ?_ _ | assumption | refine Ext.over ?_ _ | refine Ext.drew ?_ | refine Ext.drewN ?_ _)
theorem eqEntry_same (a : Int) (b : ByteArray) (c : Int) (w : World) : Gives Try.prog 65 #[.agg #[.int .i64 a, .string b, .int .i64 c], .agg #[.int .i64 a, .string b, .int .i64 c]] w (.bool true) := by
  (unfold Gives; go_enter Try.func65, Try.ntmps65)
  go_wp2_with fail
  all_goals (go_ret; refine ⟨by first | rfl | (go_tidy; simp_all; done) | (go_tidy; simp at *; omega), ?_⟩; repeat (first | exact Ext.refl _ | refine Ext.alloc ?_ _ | assumption | refine Ext.over ?_ _ | refine Ext.drew ?_ | refine Ext.drewN ?_ _))
theorem info_Entry : (Try.prog.info? 57).map (fun i => (i.zero, i.size, i.bytes)) = some (some (.agg #[.int .i64 0, .string ByteArray.empty, .int .i64 0]), 3, 32) := by kernel_rfl
theorem toEntryS_any (A : Option Addr) (n c : Nat) (l : List EN) (w : World) (hl : Row w A (l.flatMap EN.v)) (hn : l.length = n) (hx : n ≤ 1048577) :
    Calls Try.prog 25 #[.slice A n c] w fun e w' => ∃ A' c', e = .returned (.slice A' n c') ∧ w'.ownsRow w.heap.size 57 3 (.slice A' n c') n (l.flatMap EN.v) ∧ Ext w w' := by
  subst hn
  obtain ⟨i0, hi, hz0, hz1, hz2⟩ := info_parts info_Entry
  go_enter Try.func25, Try.ntmps25
  go_wp2_with (at_make; refine wpList_make_full _ rfl (.tmp 6) (.tmp 6) 35 rfl w.heap.size 57 i0 _ 3 Try.underlying35 hi hz0 hz1 _ _ _ _ l.length rfl rfl rfl rfl (by rw [hz2]; omega) (by unfold maxLen; omega) (Nat.le_refl _) ?_)
  intro w1 hown hg
  have he1 : Ext w w1 := (Below.refl _ _).grown hg (Nat.le_refl _) (by simp)
  have HO := hid hown
  have HE := hid he1
  clear hown he1 hg hz0 hz1 hz2 hi
  go_wp2_with fail
  go_loopw [4] (fun i wr => ∃ (k : Nat) (cs : List Value), k ≤ l.length ∧ i = .int .i64 k ∧ wr.ownsRow w.heap.size 57 3 (.slice (some ⟨w.heap.size, 0, none⟩) l.length l.length) l.length cs ∧ Filled EN.v 3 l k cs ∧ Ext w wr) (fun i _ => l.length - (intOf i).toNat)
  case atStart => exact ⟨0, _, by omega, rfl, HO.out, Filled.zero _ _ _ _, HE.out⟩
  case round =>
    obtain ⟨k, cs, hk, rfl, hown, hfil, he⟩ := hrel
    clear HO HE
    have HO := hid hown
    have HF := hid hfil
    have HE := hid he
    by_cases hlt : k < l.length
    · obtain ⟨b, off, hA, hc⟩ := (hl.ext he).en hlt
      subst hA
      obtain ⟨c0, c1, c2⟩ := hc k hlt
      obtain ⟨u0, o0, f0⟩ := own_some hown (k * 3) (by omega)
      obtain ⟨u1, o1, f1⟩ := own_some hown (k * 3 + 1) (by omega)
      obtain ⟨u2, o2, f2⟩ := own_some hown (k * 3 + 2) (by omega)
      clear hc hown hfil he hl
      go_wp2_with (go_at_call 64; refine (toEntry_any _ _ _ _).over.mono ?_; rintro e w' ⟨rfl, xw, rfl⟩)
      go_roundw
      case rel =>
        obtain ⟨cs', a1, a2, a3⟩ := own_stepEN HO.out HF.out hlt rfl HE.out (Nat.le_refl _) _
        exact ⟨k + 1, cs', by omega, by go_num, a1, a2, a3⟩
      case measure => simp only [intOf]; omega
    · go_wp2_with fail
      go_ret
      obtain rfl : k = l.length := by omega
      have hd := HF.out.done EN.len HO.out.1
      exact ⟨_, _, rfl, hd ▸ HO.out, HE.out⟩
theorem eqEntryS_same (A B : Option Addr) (n c d : Nat) (l : List EN) (w : World) (hl : Row w A (l.flatMap EN.v)) (hl' : Row w B (l.flatMap EN.v)) (hn : l.length = n) (hx : n ≤ 9223372036854775807) :
    Gives Try.prog 27 #[.slice A n c, .slice B n d] w (.bool true) := by
  subst hn
  (unfold Gives; go_enter Try.func27, Try.ntmps27)
  go_wp2_with fail
  go_loopw [5] (fun i wr => ∃ (k : Nat), k ≤ l.length ∧ i = .int .i64 k ∧ Ext w wr) (fun i _ => l.length - (intOf i).toNat)
  case atStart => exact ⟨0, by omega, rfl, Ext.refl _⟩
  case round =>
    obtain ⟨k, hk, rfl, he⟩ := hrel
    have HE := hid he
    by_cases hlt : k < l.length
    · obtain ⟨b, off, hA, hc⟩ := (hl.ext he).en hlt
      subst hA
      obtain ⟨c0, c1, c2⟩ := hc k hlt
      obtain ⟨b', off', hB, hc'⟩ := (hl'.ext he).en hlt
      subst hB
      obtain ⟨d0, d1, d2⟩ := hc' k hlt
      clear hc hc' he hl hl'
      go_wp2_with fail
      (refine wp_region_calm (by kernel_rfl) (by kernel_rfl) ?_; (repeat (go_big_quiet_step ((go_at_call 65; exact (eqEntry_same _ _ _ _).calm)))); refine wpQuiet_nil ?_; rintro w1 ⟨x1, rfl⟩)
      go_wp2_with fail
      go_roundw
      case rel => exact ⟨k + 1, by omega, by go_num, HE.out.over _⟩
      case measure => simp only [intOf]; omega
    · go_wp2_with fail
      go_ret
      exact ⟨rfl, HE.out⟩
end Go.Proofs.Ytbhbpibghjiknaa
