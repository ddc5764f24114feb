/- Walks: digests and seals. No condition. -/
import Derived.Test.YtmnpipbchcjgnaaZone
namespace Go.Proofs.Ytmnpipbchcjgnaa
open Go.RowKit

def byteAt (s : ByteArray) (k : Nat) : Int := if h : k < s.size then ((s[k]'h).toNat : Int) else 0
theorem byteAt_eq {s : ByteArray} {k : Nat} (h : k < s.size) : byteAt s k = ((s[k]'h).toNat : Int) := by rw [byteAt, dif_pos h]
theorem byteAt_lt (s : ByteArray) (k : Nat) : 0 ≤ byteAt s k ∧ byteAt s k < 256 := by
  unfold byteAt
  split
  · rename_i h
    have := (s[k]'h).toNat_lt
    omega
  · omega
def digTo (s : ByteArray) : Nat → Int
  | 0 => 7
  | k + 1 => (digTo s k * 257 + byteAt s k + 1) % 1000003
theorem digTo_lt (s : ByteArray) (k : Nat) : 0 ≤ digTo s k ∧ digTo s k < 1000003 := by
  cases k with
  | zero => exact ⟨by simp [digTo], by simp [digTo]⟩
  | succ k => exact ⟨Int.emod_nonneg _ (by decide), Int.emod_lt_of_pos _ (by decide)⟩
theorem digTo_step {s : ByteArray} {k : Nat} (h : k < s.size) : (wrap64 (wrap64 (wrap64 (digTo s k * 257) + wrap64 ((s[k]'h).toNat : Int)) + 1)).tmod 1000003 = digTo s (k + 1) := by
  have h1 := digTo_lt s k
  have h2 := byteAt_lt s k
  rw [← byteAt_eq h, IntWalk.wrap64_in (byteAt s k) (by omega), IntWalk.wrap64_in (digTo s k * 257) (by omega), IntWalk.wrap64_in (digTo s k * 257 + byteAt s k) (by omega), IntWalk.wrap64_in _ (by omega), Int.tmod_eq_emod_of_nonneg (by omega)]
  rfl
def dig (s : ByteArray) : Int := if s.size ≤ 200 then digTo s s.size else -1
theorem iDigest_any (s : ByteArray) (hs : s.size ≤ 9223372036854775807) (w : World) : Gives Try.prog 13 #[.string s] w (.int .i64 (dig s)) := by
  by_cases h : (s.size : Int) ≤ 200
  · have HD := hid (show dig s = digTo s s.size from if_pos (by omega))
    (unfold Gives; go_enter Try.func13, Try.ntmps13)
    go_wp2_with fail
    go_loopw [3, 4] (fun q i wr => ∃ (k : Nat), k ≤ s.size ∧ i = .int .i64 ↑k ∧ q = .int .i64 (digTo s k) ∧ Ext w wr) (fun _ i _ => s.size - (intOf i).toNat)
    case atStart => exact ⟨0, by omega, rfl, rfl, Ext.refl _⟩
    case round =>
      obtain ⟨k, hk, rfl, rfl, he⟩ := hrel
      by_cases hlt : k < s.size
      · go_wp2_with fail
        go_roundw
        case rel => exact ⟨k + 1, by omega, by go_num, by rw [digTo_step hlt], he⟩
        case measure => simp [intOf]; omega
      · go_wp2_with fail
        go_ret
        obtain rfl : k = s.size := by omega
        exact ⟨by rw [HD.out]; rfl, he⟩
  · have HD := hid (show dig s = -1 from if_neg (by omega))
    (unfold Gives; go_enter Try.func13, Try.ntmps13)
    go_wp2_with fail
    go_ret
    exact ⟨by rw [HD.out]; rfl, Ext.refl _⟩
theorem sDigest_any (s : ByteArray) (hs : s.size ≤ 9223372036854775807) (w : World) : Gives Try.prog 54 #[.string s] w (.int .i64 (dig s)) := by
  by_cases h : (s.size : Int) ≤ 200
  · have HD := hid (show dig s = digTo s s.size from if_pos (by omega))
    (unfold Gives; go_enter Try.func54, Try.ntmps54)
    go_wp2_with fail
    go_loopw [3, 4] (fun q i wr => ∃ (k : Nat), k ≤ s.size ∧ i = .int .i64 ↑k ∧ q = .int .i64 (digTo s k) ∧ Ext w wr) (fun _ i _ => s.size - (intOf i).toNat)
    case atStart => exact ⟨0, by omega, rfl, rfl, Ext.refl _⟩
    case round =>
      obtain ⟨k, hk, rfl, rfl, he⟩ := hrel
      by_cases hlt : k < s.size
      · go_wp2_with fail
        go_roundw
        case rel => exact ⟨k + 1, by omega, by go_num, by rw [digTo_step hlt], he⟩
        case measure => simp [intOf]; omega
      · go_wp2_with fail
        go_ret
        obtain rfl : k = s.size := by omega
        exact ⟨by rw [HD.out]; rfl, he⟩
  · have HD := hid (show dig s = -1 from if_neg (by omega))
    (unfold Gives; go_enter Try.func54, Try.ntmps54)
    go_wp2_with fail
    go_ret
    exact ⟨by rw [HD.out]; rfl, Ext.refl _⟩
theorem dig_lt (s : ByteArray) : -1 ≤ dig s ∧ dig s < 1000003 := by
  have := digTo_lt s s.size
  unfold dig
  split <;> omega
def sealOf (s m : Int) (t : ByteArray) : Int := if btw s 0 1000002 && btw m 0 1000000 && decide (0 ≤ dig t) then (s * 1009 + m * 31 + dig t) % 1000003 else -1
theorem iSeal_any (s m : Int) (t : ByteArray) (ht : t.size ≤ 9223372036854775807) (w : World) : Gives Try.prog 24 #[.int .i64 s, .int .i64 m, .string t] w (.int .i64 (sealOf s m t)) := by
  have hd := dig_lt t
  cases h : (btw s 0 1000002 && btw m 0 1000000 && decide (0 ≤ dig t))
  · have HS := hid (show sealOf s m t = -1 by rw [sealOf, h]; rfl)
    (unfold Gives; go_enter Try.func24, Try.ntmps24)
    go_wp2_with (first | (go_at_call 13; refine (iDigest_any _ ht _).over.mono ?_; rintro e w' ⟨rfl, xw, rfl⟩) | (go_at_call 29; refine (between_any _ _ _ _).over.mono ?_; rintro e w' ⟨rfl, xw, rfl⟩))
    rotate_left
    · exfalso
      simp_all
    all_goals
      go_ret
      refine ⟨by rw [HS.out]; rfl, ?_⟩
      repeat (first | exact Ext.refl _ | refine Ext.alloc ?_ _ | assumption | refine Ext.over ?_ _ | refine Ext.drew ?_ | refine Ext.drewN ?_ _)
  · have HS := hid (show sealOf s m t = (s * 1009 + m * 31 + dig t) % 1000003 by rw [sealOf, h]; rfl)
    simp only [Bool.and_eq_true, decide_eq_true_eq] at h
    obtain ⟨⟨h1, h2⟩, h3⟩ := h
    have b1 := btw_iff.1 h1
    have b2 := btw_iff.1 h2
    (unfold Gives; go_enter Try.func24, Try.ntmps24)
    go_wp2_with (first | (go_at_call 13; refine (iDigest_any _ ht _).over.mono ?_; rintro e w' ⟨rfl, xw, rfl⟩) | (go_at_call 29; refine (between_any _ _ _ _).over.mono ?_; rintro e w' ⟨rfl, xw, rfl⟩))
    go_ret
    refine ⟨?_, ?_⟩
    · rw [HS.out, ← Int.tmod_eq_emod_of_nonneg (by omega)]
      rfl
    · repeat (first | exact Ext.refl _ | refine Ext.alloc ?_ _ | assumption | refine Ext.over ?_ _ | refine Ext.drew ?_ | refine Ext.drewN ?_ _)
theorem sSeal_any (s m : Int) (t : ByteArray) (ht : t.size ≤ 9223372036854775807) (w : World) : Gives Try.prog 40 #[.int .i64 s, .int .i64 m, .string t] w (.int .i64 (sealOf s m t)) := by
  have hd := dig_lt t
  cases h : (btw s 0 1000002 && btw m 0 1000000 && decide (0 ≤ dig t))
  · have HS := hid (show sealOf s m t = -1 by rw [sealOf, h]; rfl)
    (unfold Gives; go_enter Try.func40, Try.ntmps40)
    go_wp2_with (first | (go_at_call 54; refine (sDigest_any _ ht _).over.mono ?_; rintro e w' ⟨rfl, xw, rfl⟩) | (go_at_call 55; refine (l01In_any _ _ _ _).over.mono ?_; rintro e w' ⟨rfl, xw, rfl⟩))
    rotate_left
    · exfalso
      simp_all
    all_goals
      go_ret
      refine ⟨by rw [HS.out]; rfl, ?_⟩
      repeat (first | exact Ext.refl _ | refine Ext.alloc ?_ _ | assumption | refine Ext.over ?_ _ | refine Ext.drew ?_ | refine Ext.drewN ?_ _)
  · have HS := hid (show sealOf s m t = (s * 1009 + m * 31 + dig t) % 1000003 by rw [sealOf, h]; rfl)
    simp only [Bool.and_eq_true, decide_eq_true_eq] at h
    obtain ⟨⟨h1, h2⟩, h3⟩ := h
    have b1 := btw_iff.1 h1
    have b2 := btw_iff.1 h2
    (unfold Gives; go_enter Try.func40, Try.ntmps40)
    go_wp2_with (first | (go_at_call 54; refine (sDigest_any _ ht _).over.mono ?_; rintro e w' ⟨rfl, xw, rfl⟩) | (go_at_call 55; refine (l01In_any _ _ _ _).over.mono ?_; rintro e w' ⟨rfl, xw, rfl⟩))
    go_ret
    refine ⟨?_, ?_⟩
    · rw [HS.out, ← Int.tmod_eq_emod_of_nonneg (by omega)]
      rfl
    · repeat (first | exact Ext.refl _ | refine Ext.alloc ?_ _ | assumption | refine Ext.over ?_ _ | refine Ext.drew ?_ | refine Ext.drewN ?_ _)
end Go.Proofs.Ytmnpipbchcjgnaa
