/- Walks: a sealed record is drawn. Conditions: sizes. -/
import Derived.Test.YtmnpipbchcjgnaaSealP
import Derived.Test.YtmnpipbchcjgnaaPick
import Derived.Test.YtmnpipbchcjgnaaPoint
namespace Go.Proofs.Ytmnpipbchcjgnaa
open Go.RowKit
set_option linter.unusedVariables false

set_option maxRecDepth 100000 in
set_option maxHeartbeats 1600000 in
theorem PickStr_any (g : Nat) (A : Option Addr) (n c : Nat) (xs : List ByteArray) (w : World) (hc : Cur w g) (hr : Row w A (xs.map Value.string)) (hn : xs.length = n) (h1 : 1 ≤ n) (h2 : n ≤ 256) (hA : ∀ b off, A = some ⟨b, off, none⟩ → b ≠ g) :
    Calls Try.prog 42 #[.pointer (some ⟨g, 0, none⟩), .slice A n c] w fun e w' => ∃ v, e = .returned (.string v) ∧ v ∈ xs ∧ Drawn w w' g := by
  subst hn
  have HR := hid hr
  have HC := hid hc
  clear hr hc
  go_enter Try.func42, Try.ntmps42
  go_wp2_with fail
  refine (l01Below_any g xs.length w HC.out (by omega)).mono ?_
  rintro _ w1 ⟨v, rfl, v0, v1, hd⟩
  obtain ⟨k, rfl⟩ : ∃ k : Nat, v = k := ⟨v.toNat, by omega⟩
  have hk : k < xs.length := by omega
  have hk' : (k : Int) < xs.length := by omega
  have HR1 := hid (hd.row HR.out hA)
  obtain ⟨b, off, hB, hcell⟩ := HR1.out.at_ (j := k) (by simpa using hk)
  have c0 := hcell k (.string xs[k]) (by simp [hk])
  have HD := hid hd
  have HM := hid (show xs[k] ∈ xs from List.getElem_mem hk)
  subst hB
  clear hd hcell
  go_wp2_with fail
  go_ret
  exact ⟨xs[k], rfl, HM.out, HD.out⟩
def texts : List ByteArray := [⟨#[]⟩, ⟨#[100, 111, 111, 114]⟩, ⟨#[103, 108, 97, 115, 115]⟩, ⟨#[97]⟩, ⟨#[103, 117, 97, 114, 100, 32, 51, 32, 105, 110, 32, 104, 97, 108, 108, 32, 50]⟩]
theorem texts_size {t : ByteArray} (h : t ∈ texts) : t.size ≤ 20 := by
  have : ∀ t ∈ texts, t.size ≤ 20 := by decide +kernel
  exact this t h
set_option maxRecDepth 100000 in
set_option maxHeartbeats 1600000 in
theorem l30Text_any (g : Nat) (w : World) (hc : Cur w g) : Calls Try.prog 33 #[.pointer (some ⟨g, 0, none⟩)] w fun e w' => ∃ v, e = .returned (.string v) ∧ v.size ≤ 20 ∧ Drawn w w' g := by
  have hlow := hc.lt
  have HC := hid hc
  clear hc
  have HLIT := hid (lit_cells w w.heap.size rfl (texts.map Value.string) 9)
  have HE := hid (show Ext w (w.alloc (.cells (texts.map Value.string).toArray 9)) by repeat (first | exact Ext.refl _ | refine Ext.alloc ?_ _ | assumption | refine Ext.over ?_ _ | refine Ext.drew ?_ | refine Ext.drewN ?_ _))
  go_enter Try.func33, Try.ntmps33
  go_wp2_with fail
  refine (PickStr_any g (some ⟨w.heap.size, 0, none⟩) 5 5 texts _ (HC.out.ext HE.out) (fun _ => ⟨_, _, rfl, fun j u hu => by
    have := HLIT.out j u hu
    rwa [show (⟨w.heap.size, 0, none⟩ : Addr).add j = ⟨w.heap.size, 0 + j, none⟩ from by unfold Addr.add; split <;> simp_all] at this⟩) rfl (by omega) (by omega) (fun b off h => by injection h with h; injection h with h; omega)).mono ?_
  rintro _ w2 ⟨v, rfl, hv, hd⟩
  have HD := hid (Drawn.of_ext HE.out hd)
  have HV := hid (texts_size hv)
  clear hd hv
  go_wp2_with fail
  go_ret
  exact ⟨v, rfl, HV.out, HD.out⟩
set_option maxRecDepth 100000 in
set_option maxHeartbeats 1600000 in
theorem l30Record_any (g : Nat) (w : World) (hc : Cur w g) : Calls Try.prog 21 #[.pointer (some ⟨g, 0, none⟩)] w fun en w' => ∃ (A : Option Addr) (k c : Nat) (l : List EN), en = .returned (.slice A k c) ∧ l.length = k ∧ k ≤ 7 ∧ Rec l 100 ∧ w'.ownsRow w.heap.size 31 3 (.slice A k c) k (l.flatMap EN.v) ∧ Drawn w w' g := by
  have hlow := hc.lt
  have HC := hid hc
  clear hc
  go_enter Try.func21, Try.ntmps21
  go_wp2_with fail
  have HO0 := hid (own_empty w w.heap.size w.heap.size rfl (Nat.le_refl _) 31 3)
  refine (l01Below_any g 8 _ (HC.out.ext (by repeat (first | exact Ext.refl _ | refine Ext.alloc ?_ _ | assumption | refine Ext.over ?_ _ | refine Ext.drew ?_ | refine Ext.drewN ?_ _))) (by omega)).mono ?_
  rintro _ w1 ⟨v, rfl, v0, v1, hd⟩
  obtain ⟨n, rfl⟩ : ∃ p : Nat, v = p := ⟨v.toNat, by omega⟩
  have hn7 : n ≤ 7 := by omega
  have HO1 := hid (hd.own HO0.out hlow)
  have HD1 := hid (Drawn.of_ext (show Ext w _ by repeat (first | exact Ext.refl _ | refine Ext.alloc ?_ _ | assumption | refine Ext.over ?_ _ | refine Ext.drew ?_ | refine Ext.drewN ?_ _)) hd)
  clear hd HO0 v0 v1
  go_wp2_with fail
  go_loopw [3, 4, 6] (fun ov tv kv wr => ∃ (k : Nat) (T : Int) (A : Option Addr) (c : Nat) (l : List EN), k ≤ n ∧ kv = .int .i64 ↑k ∧ tv = .int .i64 T ∧ (0 ≤ T ∧ T ≤ 8 * (k : Int)) ∧ ov = .slice A k c ∧ l.length = k ∧ Rec l T ∧ wr.ownsRow w.heap.size 31 3 (.slice A k c) k (l.flatMap EN.v) ∧ Drawn w wr g) (fun _ _ kv _ => n - (intOf kv).toNat)
  case atStart => exact ⟨0, 0, _, _, [], by omega, rfl, rfl, by omega, rfl, rfl, ⟨fun k hk => by simp at hk, fun x hx => by cases hx⟩, HO1.out, HD1.out⟩
  case round =>
    clear HO1 HD1
    obtain ⟨k, T, A, c, l, hk, rfl, rfl, hT, rfl, hll, hrec, hown, hd⟩ := hrel
    have HS := hid hrec
    have HO := hid hown
    have HD := hid hd
    have HLL := hid hll
    clear hrec hown hd hll
    by_cases hlt : k < n
    · go_wp2_with fail
      refine (l01Below_any g 9 wr HD.out.2 (by omega)).mono ?_
      rintro _ w2 ⟨a, rfl, a0, a1, hd⟩
      have HD2 := hid (HD.out.trans hd)
      have HO2 := hid (hd.own HO.out hlow)
      clear hd HD HO
      go_wp2_with fail
      refine (l30Text_any g w2 HD2.out.2).mono ?_
      rintro _ w3 ⟨t, rfl, ht, hd⟩
      have HD3 := hid (HD2.out.trans hd)
      have HO3 := hid (hd.own HO2.out hlow)
      have HTS := hid ht
      clear hd HD2 HO2 ht
      go_wp2_with fail
      refine (sAppend_any A k c l (T + a) t w3 (Row.of_own HO3.out) HLL.out (by omega) (by constructor <;> omega) (by have := HTS.out; omega) (HS.out.okx (by omega)) (own_none HO3.out)).mono ?_
      rintro _ w4 ⟨A2, k2, c2, rfl, ho, he⟩
      obtain ⟨h1, h2, h3⟩ := HS.out.app (m := T + a) (t := t) (by omega) (by omega) HTS.out (by have := HLL.out; omega)
      rw [h2] at ho
      have hk2 : k2 = k + 1 := by
        have := own_lenEN ho
        rw [List.length_append, HLL.out] at this
        simpa using this.symm
      subst hk2
      have HD4 := hid (HD3.out.grown (ext_grown he none) hlow (fun j hj => by cases hj))
      have HO4 := hid (own_base (base' := w.heap.size) ho HD3.out.size)
      have HS4 := hid h3
      have hlen := HLL.out
      clear ho he h1 h2 h3 HO3 HD3 HS
      go_wp2_with fail
      go_roundw
      case rel => exact ⟨k + 1, T + a, A2, c2, _, by omega, by go_num, rfl, by omega, rfl, by rw [List.length_append, hlen]; rfl, HS4.out, HO4.out, HD4.out⟩
      case measure => simp [intOf]; omega
    · obtain rfl : k = n := by omega
      go_wp2_with fail
      go_ret
      exact ⟨A, k, c, l, rfl, HLL.out, by omega, HS.out.mono (by omega), HO.out, HD.out⟩
set_option maxRecDepth 100000 in
set_option maxHeartbeats 1600000 in
theorem DrawRecord_any (A : Option Addr) (n c : Nat) (bs : List Int) (w : World) (hl : Row w A (bs.map (Value.int .u8))) (hn : bs.length = n) (hx : n ≤ 1048576) (hz : ∀ z ∈ bs, 0 ≤ z ∧ z ≤ 255) :
    Calls Try.prog 6 #[.slice A n c] w fun en w' => ∃ (A : Option Addr) (k c : Nat) (l : List EN), en = .returned (.slice A k c) ∧ l.length = k ∧ k ≤ 7 ∧ Rec l 100 ∧ w'.ownsRow w.heap.size 31 3 (.slice A k c) k (l.flatMap EN.v) ∧ Ext w w' := by
  have HZ := hid hz
  clear hz
  go_enter Try.func6, Try.ntmps6
  go_wp2_with fail
  refine (l01New_any A n c bs _ (hl.ext (by repeat (first | exact Ext.refl _ | refine Ext.alloc ?_ _ | assumption | refine Ext.over ?_ _ | refine Ext.drew ?_ | refine Ext.drewN ?_ _))) hn hx HZ.out).mono ?_
  rintro _ w1 ⟨g, rfl, hg, hc, he⟩
  have HC := hid hc
  have HE := hid he
  clear hc he
  go_wp2_with fail
  refine (l30Record_any g w1 HC.out).mono ?_
  rintro _ w2 ⟨A2, k, c2, l, rfl, hll, hk, hf, ho, hd⟩
  have HF := hid hf
  have HO := hid (own_base ho HE.out.size)
  have HE2 := hid (hd.out HE.out hg)
  clear hf ho hd
  go_wp2_with fail
  go_ret
  exact ⟨A2, k, c2, l, rfl, hll, hk, HF.out, HO.out, HE2.out⟩
end Go.Proofs.Ytmnpipbchcjgnaa
