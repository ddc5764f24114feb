/- Walks of the laws' helpers: the size of a record. Conditions: sizes. -/
import Derived.Test.YtbhbpibghjiknaaBroken
import Derived.Test.YtbhbpibghjiknaaHelpE
namespace Go.Proofs.Ytbhbpibghjiknaa
open Go.RowKit

def enPre (l : List EN) : Nat → Nat
  | 0 => 0
  | k + 1 => enPre l k + (atEN l k).b.size
def enSz (l : List EN) : Nat := l.length + enPre l l.length
theorem enSz_ge (l : List EN) : l.length ≤ enSz l := Nat.le_add_right _ _
theorem enPre_mono (l : List EN) {i j : Nat} (h : i ≤ j) : enPre l i ≤ enPre l j := by
  induction j with
  | zero => obtain rfl : i = 0 := by omega
            exact Nat.le_refl _
  | succ j ih =>
    rcases Nat.lt_or_ge i (j + 1) with h' | h'
    · have := ih (by omega); show enPre l i ≤ enPre l j + (atEN l j).b.size; omega
    · obtain rfl : i = j + 1 := by omega
      exact Nat.le_refl _
theorem szEntry_ok (a c : Int) (b : ByteArray) (left : Int) (w : World) (h : (b.size : Int) ≤ left) (h1 : left ≤ 1048576) : Gives Try.prog 63 #[.agg #[.int .i64 a, .string b, .int .i64 c], .int .i64 left] w (.int .i64 (left - b.size)) := by
  have hb : ¬ (left - (b.size : Int) < 0) := by omega
  (unfold Gives; go_enter Try.func63, Try.ntmps63)
  go_wp2_with fail
  (go_ret; refine ⟨by first | rfl | (go_tidy; simp_all; done) | (go_tidy; simp at *; omega), ?_⟩; repeat (first | exact Ext.refl _ | refine Ext.alloc ?_ _ | assumption | refine Ext.over ?_ _ | refine Ext.drew ?_ | refine Ext.drewN ?_ _))
theorem szEntry_no (a c : Int) (b : ByteArray) (left : Int) (w : World) (h : left < (b.size : Int)) (h1 : left ≤ 1048576) (h0 : 0 ≤ left) (hb : b.size ≤ 9223372036854775807) : Gives Try.prog 63 #[.agg #[.int .i64 a, .string b, .int .i64 c], .int .i64 left] w (.int .i64 (-1)) := by
  have hb : left - (b.size : Int) < 0 := by omega
  (unfold Gives; go_enter Try.func63, Try.ntmps63)
  go_wp2_with fail
  (go_ret; refine ⟨by first | rfl | (go_tidy; simp_all; done) | (go_tidy; simp at *; omega), ?_⟩; repeat (first | exact Ext.refl _ | refine Ext.alloc ?_ _ | assumption | refine Ext.over ?_ _ | refine Ext.drew ?_ | refine Ext.drewN ?_ _))
theorem szEntryS_ok (A : Option Addr) (n c : Nat) (l : List EN) (left : Int) (w : World) (hl : Row w A (l.flatMap EN.v)) (hn : l.length = n) (h : (enSz l : Int) ≤ left) (h1 : left ≤ 1048576) :
    Gives Try.prog 23 #[.slice A n c, .int .i64 left] w (.int .i64 (left - enSz l)) := by
  subst hn
  have hge := enSz_ge l
  have hb : ¬ (left - (l.length : Int) < 0) := by omega
  have HD := hid (show left - (l.length : Int) - enPre l l.length = left - (enSz l : Int) by unfold enSz; omega)
  have HS := hid (show enSz l = l.length + enPre l l.length from rfl)
  (unfold Gives; go_enter Try.func23, Try.ntmps23)
  go_wp2_with fail
  go_loopw [1, 5] (fun q i wr => ∃ (k : Nat), k ≤ l.length ∧ i = .int .i64 ↑k ∧ q = .int .i64 (left - l.length - enPre l k) ∧ Ext w wr) (fun _ i _ => (l.length - (intOf i).toNat))
  case atStart => exact ⟨0, by omega, rfl, by simp [enPre], Ext.refl _⟩
  case round =>
    obtain ⟨k, hkn, rfl, rfl, he⟩ := hrel
    have HE := hid he
    obtain ⟨x, rfl⟩ := he.ex
    clear he
    by_cases hlt : k < l.length
    · obtain ⟨b, off, rfl, hc⟩ := hl.en hlt
      obtain ⟨c1, c2, c3⟩ := hc k hlt
      have hq : enPre l k + (atEN l k).b.size ≤ enPre l l.length := enPre_mono l (i := k + 1) (j := l.length) (by omega)
      have hq2 := HS.out
      have hle : ((atEN l k).b.size : Int) ≤ left - l.length - enPre l k := by omega
      have hb2 : ¬ (left - (l.length : Int) - enPre l k - (atEN l k).b.size < 0) := by omega
      have HR := hid (show left - (l.length : Int) - enPre l k - (atEN l k).b.size = left - l.length - enPre l (k + 1) by show _ = left - l.length - ((enPre l k + (atEN l k).b.size : Nat) : Int); omega)
      have h2 : left - (l.length : Int) - enPre l k ≤ 1048576 := by omega
      clear hc hl hq2 hq
      go_wp2_with (go_at_call 63; refine (szEntry_ok _ _ _ _ _ hle h2).over.mono ?_; rintro e w' ⟨rfl, xw, rfl⟩)
      go_roundw
      case rel =>
        refine ⟨k + 1, by omega, by go_num, by rw [HR.out], ?_⟩
        repeat (first | exact Ext.refl _ | refine Ext.alloc ?_ _ | assumption | refine Ext.over ?_ _ | refine Ext.drew ?_ | refine Ext.drewN ?_ _)
      case measure => simp [intOf]; omega
    · go_wp2_with fail
      go_ret
      obtain rfl : k = l.length := by omega
      exact ⟨by rw [HD.out]; rfl, HE.out⟩
theorem szEntryS_no (A : Option Addr) (n c : Nat) (l : List EN) (left : Int) (w : World) (hl : Row w A (l.flatMap EN.v)) (hn : l.length = n) (hok : ∀ x ∈ l, x.ok) (h : left < (enSz l : Int)) (hx : n ≤ 9223372036854775807) (h1 : left ≤ 1048576) (h0 : 0 ≤ left) :
    Gives Try.prog 23 #[.slice A n c, .int .i64 left] w (.int .i64 (-1)) := by
  subst hn
  have HS := hid (show enSz l = l.length + enPre l l.length from rfl)
  by_cases hb : left - (l.length : Int) < 0
  · clear h
    (unfold Gives; go_enter Try.func23, Try.ntmps23)
    go_wp2_with fail
    (go_ret; refine ⟨by first | rfl | (go_tidy; simp_all; done) | (go_tidy; simp at *; omega), ?_⟩; repeat (first | exact Ext.refl _ | refine Ext.alloc ?_ _ | assumption | refine Ext.over ?_ _ | refine Ext.drew ?_ | refine Ext.drewN ?_ _))
  · have H := hid h
    clear h
    (unfold Gives; go_enter Try.func23, Try.ntmps23)
    go_wp2_with fail
    go_loopw [1, 5] (fun q i wr => ∃ (k : Nat), k ≤ l.length ∧ i = .int .i64 ↑k ∧ q = .int .i64 (left - l.length - enPre l k) ∧ 0 ≤ left - (l.length : Int) - enPre l k ∧ Ext w wr) (fun _ i _ => (l.length - (intOf i).toNat))
    case atStart => exact ⟨0, by omega, rfl, by simp [enPre], by simp [enPre]; omega, Ext.refl _⟩
    case round =>
      obtain ⟨k, hkn, rfl, rfl, hpos, he⟩ := hrel
      have HE := hid he
      obtain ⟨x, rfl⟩ := he.ex
      clear he
      by_cases hlt : k < l.length
      · obtain ⟨b, off, rfl, hc⟩ := hl.en hlt
        obtain ⟨c1, c2, c3⟩ := hc k hlt
        have hs := (atEN_ok hok hlt).2.1
        have h2 : left - (l.length : Int) - enPre l k ≤ 1048576 := by omega
        clear hc hl hok
        by_cases hle : ((atEN l k).b.size : Int) ≤ left - l.length - enPre l k
        · have hb2 : ¬ (left - (l.length : Int) - enPre l k - (atEN l k).b.size < 0) := by omega
          have HR := hid (show left - (l.length : Int) - enPre l k - (atEN l k).b.size = left - l.length - enPre l (k + 1) by show _ = left - l.length - ((enPre l k + (atEN l k).b.size : Nat) : Int); omega)
          have HP := hid (show 0 ≤ left - (l.length : Int) - enPre l (k + 1) by rw [← HR.out]; omega)
          go_wp2_with (go_at_call 63; refine (szEntry_ok _ _ _ _ _ hle h2).over.mono ?_; rintro e w' ⟨rfl, xw, rfl⟩)
          go_roundw
          case rel =>
            refine ⟨k + 1, by omega, by go_num, by rw [HR.out], HP.out, ?_⟩
            repeat (first | exact Ext.refl _ | refine Ext.alloc ?_ _ | assumption | refine Ext.over ?_ _ | refine Ext.drew ?_ | refine Ext.drewN ?_ _)
          case measure => simp [intOf]; omega
        · have hle' : left - (l.length : Int) - enPre l k < ((atEN l k).b.size : Int) := by omega
          clear hle
          go_wp2_with (go_at_call 63; refine (szEntry_no _ _ _ _ _ hle' h2 hpos hs).over.mono ?_; rintro e w' ⟨rfl, xw, rfl⟩)
          go_ret
          refine ⟨rfl, ?_⟩
          repeat (first | exact Ext.refl _ | refine Ext.alloc ?_ _ | assumption | refine Ext.over ?_ _ | refine Ext.drew ?_ | refine Ext.drewN ?_ _)
      · exfalso
        obtain rfl : k = l.length := by omega
        have := HS.out
        have := H.out
        omega
end Go.Proofs.Ytbhbpibghjiknaa
