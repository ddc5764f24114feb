/- Walks: Raises. Conditions: sizes. -/
import Derived.Test.YtmnpipbchcjgnaaZone
import Derived.Test.YtmnpipbchcjgnaaRowM
import Derived.Test.YtmnpipbchcjgnaaPush
namespace Go.Proofs.Ytmnpipbchcjgnaa
open Go.RowKit

def zokAt (l : List T3) (i : Nat) : Bool := zok (at3 l i).a (at3 l i).b (at3 l i).c
def bitT (c k : Int) : Bool := bits .and .i64 (c / 2 ^ k.toNat) 1 == 1
def raises (l : List T3) (z k m : Int) : Bool :=
  btw z 0 ((l.length : Int) - 1) && (btw k 1 3 && (zokAt l z.toNat && (btw m (at3 l z.toNat).a (wrap64 ((at3 l z.toNat).b - 1)) && bitT (at3 l z.toNat).c k)))
theorem raises_z {l : List T3} {z k m : Int} (h : btw z 0 ((l.length : Int) - 1) = false) : raises l z k m = false := by rw [raises, h]; rfl
theorem raises_k {l : List T3} {z k m : Int} (h : btw k 1 3 = false) : raises l z k m = false := by rw [raises, h]; simp
theorem raises_o {l : List T3} {i : Nat} {k m : Int} (h : zok (at3 l i).a (at3 l i).b (at3 l i).c = false) : raises l i k m = false := by
  rw [raises, show zokAt l (i : Int).toNat = false from h]; simp
theorem raises_m {l : List T3} {i : Nat} {k m : Int} (h : btw m (at3 l i).a (wrap64 ((at3 l i).b - 1)) = false) : raises l i k m = false := by
  rw [raises, show btw m (at3 l (i : Int).toNat).a (wrap64 ((at3 l (i : Int).toNat).b - 1)) = false from h]; simp
theorem raises_y {l : List T3} {i q : Nat} {m : Int} (h1 : btw (i : Int) 0 ((l.length : Int) - 1) = true) (h2 : btw (q : Int) 1 3 = true) (h3 : zok (at3 l i).a (at3 l i).b (at3 l i).c = true) (h4 : btw m (at3 l i).a (wrap64 ((at3 l i).b - 1)) = true) :
    raises l i q m = (bits .and .i64 ((at3 l i).c / 2 ^ q) 1 == 1) := by
  rw [raises, h1, h2, show zokAt l (i : Int).toNat = true from h3, show btw m (at3 l (i : Int).toNat).a (wrap64 ((at3 l (i : Int).toNat).b - 1)) = true from h4]; rfl
theorem iRaises_any (A : Option Addr) (n c : Nat) (l : List T3) (z k m : Int) (w : World) (hl : Row w A (l.flatMap T3.v)) (hn : l.length = n) (hx : n ≤ 9223372036854775807) :
    Gives Try.prog 17 #[.slice A n c, .agg #[.int .i64 z, .int .i64 k, .int .i64 m]] w (.bool (raises l z k m)) := by
  subst hn
  cases hz : btw z 0 ((l.length : Int) - 1)
  · have HR := hid (raises_z (k := k) (m := m) hz)
    (unfold Gives; go_enter Try.func17, Try.ntmps17)
    go_wp2_with (go_at_call 29; refine (between_any _ _ _ _).over.mono ?_; rintro e w' ⟨rfl, xw, rfl⟩)
    go_ret
    refine ⟨by rw [HR.out]; rfl, ?_⟩
    repeat (first | exact Ext.refl _ | refine Ext.alloc ?_ _ | assumption | refine Ext.over ?_ _ | refine Ext.drew ?_ | refine Ext.drewN ?_ _)
  · have hz' := btw_iff.1 hz
    obtain ⟨i, rfl⟩ : ∃ i : Nat, z = i := ⟨z.toNat, by omega⟩
    have hi : i < l.length := by omega
    obtain ⟨b, off, rfl, hc⟩ := hl.t3 hi
    obtain ⟨c1, c2, c3⟩ := hc i hi
    clear hc hl
    cases ho : zok (at3 l i).a (at3 l i).b (at3 l i).c
    · have HR := hid (raises_o (k := k) (m := m) ho)
      (unfold Gives; go_enter Try.func17, Try.ntmps17)
      go_wp2_with (first | (go_at_call 29; refine (between_any _ _ _ _).over.mono ?_; rintro e w' ⟨rfl, xw, rfl⟩) | (go_at_call 20; refine (iZoneOk_any _ _ _ _).over.mono ?_; rintro e w' ⟨rfl, xw, rfl⟩))
      go_ret
      refine ⟨by rw [HR.out]; rfl, ?_⟩
      repeat (first | exact Ext.refl _ | refine Ext.alloc ?_ _ | assumption | refine Ext.over ?_ _ | refine Ext.drew ?_ | refine Ext.drewN ?_ _)
    · cases hk : btw k 1 3
      · have HR := hid (raises_k (l := l) (z := (i : Int)) (m := m) hk)
        (unfold Gives; go_enter Try.func17, Try.ntmps17)
        go_wp2_with (first | (go_at_call 29; refine (between_any _ _ _ _).over.mono ?_; rintro e w' ⟨rfl, xw, rfl⟩) | (go_at_call 20; refine (iZoneOk_any _ _ _ _).over.mono ?_; rintro e w' ⟨rfl, xw, rfl⟩))
        go_ret
        refine ⟨by rw [HR.out]; rfl, ?_⟩
        repeat (first | exact Ext.refl _ | refine Ext.alloc ?_ _ | assumption | refine Ext.over ?_ _ | refine Ext.drew ?_ | refine Ext.drewN ?_ _)
      · have hk' := btw_iff.1 hk
        obtain ⟨q, rfl⟩ : ∃ q : Nat, k = q := ⟨k.toNat, by omega⟩
        cases hm : btw m (at3 l i).a (wrap64 ((at3 l i).b - 1))
        · have HR := hid (raises_m (k := (q : Int)) hm)
          (unfold Gives; go_enter Try.func17, Try.ntmps17)
          go_wp2_with (first | (go_at_call 29; refine (between_any _ _ _ _).over.mono ?_; rintro e w' ⟨rfl, xw, rfl⟩) | (go_at_call 20; refine (iZoneOk_any _ _ _ _).over.mono ?_; rintro e w' ⟨rfl, xw, rfl⟩))
          go_ret
          refine ⟨by rw [HR.out]; rfl, ?_⟩
          repeat (first | exact Ext.refl _ | refine Ext.alloc ?_ _ | assumption | refine Ext.over ?_ _ | refine Ext.drew ?_ | refine Ext.drewN ?_ _)
        · have HR := hid (raises_y hz hk ho hm)
          (unfold Gives; go_enter Try.func17, Try.ntmps17)
          go_wp2_with (first | (go_at_call 29; refine (between_any _ _ _ _).over.mono ?_; rintro e w' ⟨rfl, xw, rfl⟩) | (go_at_call 20; refine (iZoneOk_any _ _ _ _).over.mono ?_; rintro e w' ⟨rfl, xw, rfl⟩))
          go_ret
          refine ⟨by rw [HR.out]; rfl, ?_⟩
          repeat (first | exact Ext.refl _ | refine Ext.alloc ?_ _ | assumption | refine Ext.over ?_ _ | refine Ext.drew ?_ | refine Ext.drewN ?_ _)
theorem zok_iff {a b c : Int} : zok a b c = true ↔ (0 ≤ a ∧ a ≤ 10000) ∧ (a ≤ b ∧ b ≤ 10000) ∧ (0 ≤ c ∧ c ≤ 15) := by unfold zok; simp [btw_iff, and_assoc]
end Go.Proofs.Ytmnpipbchcjgnaa
