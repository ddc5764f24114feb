/- Walks of the laws' helpers: the text of a mark; records that are marked and held. Conditions: sizes. -/
import Derived.Test.YtbhbpibghjiknaaHelpE
import Derived.Laws.BytesArg
import Derived.Test.YtbhbpibghjiknaaPush
namespace Go.Proofs.Ytbhbpibghjiknaa
open Go.RowKit
set_option linter.unusedVariables false

def digB (k : Nat) : ByteArray := strOfNums [48 + (k : Int) % 10]
def digsOn : Nat → Nat → ByteArray → ByteArray
  | 0, _, out => out
  | f + 1, k, out => if k = 0 then out else digsOn f (k / 10) (digB k ++ out)
def mtext (k : Int) : ByteArray := ⟨#[109]⟩ ++ digsOn 20 k.toNat ⟨#[]⟩
theorem digB_size (k : Nat) : (digB k).size = 1 := strOfNums_size _
set_option maxRecDepth 100000 in
theorem markText_any (k : Nat) (w : World) (h0 : 0 < k) (h1 : k ≤ 1000000000) : Gives Try.prog 72 #[.int .i64 k] w (.string (mtext k)) := by
  have hk : ¬ ((k : Int) ≤ 0) := by omega
  (unfold Gives; go_enter Try.func72, Try.ntmps72)
  go_wp2_with fail
  go_loopw [0, 3] (fun q o wr => ∃ (f j : Nat) (out : ByteArray), q = .int .i64 ↑j ∧ o = .string out ∧ digsOn f j out = digsOn 20 k ⟨#[]⟩ ∧ j < 10 ^ f ∧ j ≤ 1000000000 ∧ out.size + f ≤ 20 ∧ Ext w wr) (fun q _ _ => (intOf q).toNat)
  case atStart => exact ⟨20, k, _, rfl, rfl, rfl, by omega, by omega, by simp [ByteArray.size], Ext.refl _⟩
  case round =>
    obtain ⟨f, j, out, rfl, rfl, hd, hf, hj, hs, he⟩ := hrel
    have HD := hid hd
    have HF := hid hf
    clear hd hf
    by_cases h : 0 < j
    · have hcv : (convert 51 9 (.slice (some ⟨wr.heap.size, 0, none⟩) 1 1)).run Try.prog (wr.alloc (.cells #[.int .u8 (48 + ↑j % 10)] 5)) = .ok (.string (digB j)) (wr.alloc (.cells #[.int .u8 (48 + ↑j % 10)] 5)) :=
        run_convert_bytes_arg _ 51 5 Try.underlying51 Try.underlying5 _ 0 1 1 [48 + (j : Int) % 10] rfl (fun i hi => by
          obtain rfl : i = 0 := by omega
          rw [World.cell?_alloc_new]; rfl) _ Try.underlying9
      cases f with
      | zero => exfalso; have := HF.out; omega
      | succ f =>
        have HD2 := hid (show digsOn f (j / 10) (digB j ++ out) = digsOn 20 k ⟨#[]⟩ by rw [← HD.out]; show _ = (if j = 0 then out else digsOn f (j / 10) (digB j ++ out)); rw [if_neg (by omega)])
        have HF2 := hid (show j / 10 < 10 ^ f by have := HF.out; rw [Nat.pow_succ] at this; omega)
        have hs1 : (digB j).size ≤ 1 := by rw [digB_size]; exact Nat.le_refl _
        have HZ := hid (show (digB j ++ out).size + f ≤ 20 by rw [ByteArray.size_append, digB_size]; omega)
        go_wp2_with fail
        go_roundw
        case rel => exact ⟨f, j / 10, _, by simp, rfl, HD2.out, HF2.out, by omega, HZ.out, he.alloc _⟩
        case measure => simp [intOf]; omega
    · obtain rfl : j = 0 := by omega
      have HZ := hid (show out = digsOn 20 k ⟨#[]⟩ by rw [← HD.out]; cases f <;> rfl)
      go_wp2_with fail
      go_ret
      refine ⟨?_, he⟩
      unfold mtext
      rw [Int.toNat_natCast, ← HZ.out]
      rfl
theorem markTextZ (z : Int) (w : World) (h0 : 0 < z) (h1 : z ≤ 1000000000) : Gives Try.prog 72 #[.int .i64 z] w (.string (mtext z)) := by
  obtain ⟨k, rfl⟩ : ∃ k : Nat, z = k := ⟨z.toNat, by omega⟩
  exact markText_any k w (by omega) (by omega)
theorem markEntryS_any (A : Option Addr) (n c base : Nat) (cs : List Value) (q : Int) (w : World) (hown : w.ownsRow base 57 3 (.slice A n c) n cs) (hx : n ≤ 8388608) (hq : 0 ≤ q) (hq' : q ≤ 100000000) :
    Calls Try.prog 53 #[.slice A n c, .int .i64 q] w fun e w' => e = .returned (.int .i64 (q + 3 * n)) ∧ w.grownBy w' (Value.slice A n c).ownBlock ∧ w.heap.size ≤ w'.heap.size ∧ w'.ownsRow base 57 3 (.slice A n c) n ((mksEN mtext q n).flatMap EN.v) := by
  go_enter Try.func53, Try.ntmps53
  have HO := hid hown
  clear hown
  go_wp2_with fail
  go_loopw [1, 5] (fun q' i wr => ∃ (k : Nat) (cs : List Value), k ≤ n ∧ i = .int .i64 k ∧ q' = .int .i64 (q + 3 * k) ∧ wr.ownsRow base 57 3 (.slice A n c) n cs ∧ w.grownBy wr (Value.slice A n c).ownBlock ∧ w.heap.size ≤ wr.heap.size ∧ Filled EN.v 3 (mksEN mtext q n) k cs) (fun _ i _ => n - (intOf i).toNat)
  case atStart => exact ⟨0, cs, by omega, rfl, by simp, HO.out, World.grownBy.refl _ _, Nat.le_refl _, Filled.zero _ _ _ _⟩
  case round =>
    obtain ⟨k, cs, hk, rfl, rfl, hown, hgr, hsz, hfil⟩ := hrel
    clear HO
    have HO := hid hown
    have HG := hid hgr
    have HS := hid hsz
    have HF := hid hfil
    by_cases hlt : k < n
    · obtain ⟨g, hA⟩ := own_addr hown (by omega)
      subst hA
      obtain ⟨u0, o0, f0⟩ := own_some hown (k * 3) (by omega)
      obtain ⟨u1, o1, f1⟩ := own_some hown (k * 3 + 1) (by omega)
      obtain ⟨u2, o2, f2⟩ := own_some hown (k * 3 + 2) (by omega)
      clear hown hgr hsz hfil
      go_wp2_with (go_at_call 72; refine (markTextZ _ _ (by omega) (by omega)).over.mono ?_; rintro e w' ⟨rfl, xw, rfl⟩)
      go_roundw
      case rel =>
        obtain ⟨cs', a1, a2, a3⟩ := own_putEN ⟨_, mtext (q + 3 * ↑k + 1), _⟩ HO.out HF.out (by rw [mksEN_len]; exact hlt) (mksEN_at mtext q n k hlt) (mksEN_len mtext q n) HG.out
        exact ⟨k + 1, cs', by omega, by go_num, by go_num, own_ext a1 (ovr_below _ _), grown_then a3 (ext_grown (ovr_below _ _) none) (.inr (by simp)), Nat.le_trans HS.out (by simp [ovr_size]), a2⟩
      case measure => simp only [intOf]; omega
    · go_wp2_with fail
      go_ret
      obtain rfl : k = n := by omega
      have hd := Filled.done EN.len (l := mksEN mtext q k) (by rw [mksEN_len]; exact HF.out) (by rw [mksEN_len]; exact HO.out.1)
      exact ⟨rfl, HG.out, HS.out, hd ▸ HO.out⟩
theorem heldEntryS_ok (A : Option Addr) (n c : Nat) (q : Int) (w : World) (hl : Row w A ((mksEN mtext q n).flatMap EN.v)) (hx : n ≤ 8388608) (hq : 0 ≤ q) (hq' : q ≤ 100000000) :
    Gives Try.prog 54 #[.slice A n c, .int .i64 q] w (.int .i64 (q + 3 * n)) := by
  (unfold Gives; go_enter Try.func54, Try.ntmps54)
  go_wp2_with fail
  go_loopw [1, 5] (fun q' i wr => ∃ (k : Nat), k ≤ n ∧ i = .int .i64 k ∧ q' = .int .i64 (q + 3 * k) ∧ Ext w wr) (fun _ i _ => n - (intOf i).toNat)
  case atStart => exact ⟨0, by omega, rfl, by simp, Ext.refl _⟩
  case round =>
    obtain ⟨k, hk, rfl, rfl, he⟩ := hrel
    have HE := hid he
    by_cases hlt : k < n
    · obtain ⟨b, off, hA, hc⟩ := (hl.ext he).en (i := k) (by rw [mksEN_len]; exact hlt)
      subst hA
      obtain ⟨c0, c1, c2⟩ := hc k (by rw [mksEN_len]; exact hlt)
      rw [mksEN_at mtext q n k hlt] at c0 c1 c2
      clear hc he hl
      go_wp2_with fail
      (refine wp_region_calm (by kernel_rfl) (by kernel_rfl) ?_; (repeat (go_big_quiet_step ((go_at_call 72; exact (markTextZ _ _ (by omega) (by omega)).calm)))); refine wpQuiet_nil ?_; rintro w1 ⟨x1, rfl⟩)
      go_wp2_with fail
      go_roundw
      case rel => exact ⟨k + 1, by omega, by go_num, by go_num, HE.out.over _⟩
      case measure => simp only [intOf]; omega
    · go_wp2_with fail
      go_ret
      obtain rfl : k = n := by omega
      exact ⟨rfl, HE.out⟩
end Go.Proofs.Ytbhbpibghjiknaa
