/- Walks: zones and reports are drawn. Conditions: sizes. -/
import Derived.Test.YtmnpipbchcjgnaaPick
import Derived.Test.YtmnpipbchcjgnaaPoint
import Derived.Test.YtmnpipbchcjgnaaZone
import Derived.Test.YtmnpipbchcjgnaaRowM
namespace Go.Proofs.Ytmnpipbchcjgnaa
open Go.RowKit
set_option linter.unusedVariables false

theorem info_ZoneD : (Try.prog.info? 48).map (fun i => (i.zero, i.size, i.bytes)) = some (some (.agg #[.int .i64 0, .int .i64 0, .int .i64 0]), 3, 24) := by kernel_rfl
theorem info_ReportD : (Try.prog.info? 43).map (fun i => (i.zero, i.size, i.bytes)) = some (some (.agg #[.int .i64 0, .int .i64 0, .int .i64 0]), 3, 24) := by kernel_rfl
/-- One to three zones, all valid. -/
def Zns (l : List T3) : Prop := (1 ≤ l.length ∧ l.length ≤ 3) ∧ ∀ x, x ∈ l → zok x.a x.b x.c = true
/-- At most nine reports. -/
def Rps (l : List T3) : Prop := l.length ≤ 9 ∧ ∀ x, x ∈ l → (0 ≤ x.a ∧ x.a ≤ 3) ∧ (1 ≤ x.b ∧ x.b ≤ 3) ∧ (0 ≤ x.c ∧ x.c ≤ 59)
theorem zok_of {a b c : Int} (ha : 0 ≤ a ∧ a ≤ 10000) (hb : a ≤ b ∧ b ≤ 10000) (hc : 0 ≤ c ∧ c ≤ 15) : zok a b c = true := by
  unfold zok btw
  simp only [Bool.and_eq_true, decide_eq_true_eq]
  omega
theorem snocZ {l : List T3} (h : ∀ x, x ∈ l → zok x.a x.b x.c = true) {a b c : Int} (hn : zok a b c = true) : ∀ z, z ∈ l ++ [(⟨a, b, c⟩ : T3)] → zok z.a z.b z.c = true := fun z hz => by
  rcases List.mem_append.1 hz with hz | hz
  · exact h z hz
  · obtain rfl : z = ⟨a, b, c⟩ := by simpa using hz
    exact hn
theorem snocR {l : List T3} (h : ∀ x, x ∈ l → (0 ≤ x.a ∧ x.a ≤ 3) ∧ (1 ≤ x.b ∧ x.b ≤ 3) ∧ (0 ≤ x.c ∧ x.c ≤ 59)) {a b c : Int} (hn : (0 ≤ a ∧ a ≤ 3) ∧ (1 ≤ b ∧ b ≤ 3) ∧ (0 ≤ c ∧ c ≤ 59)) : ∀ x, x ∈ l ++ [(⟨a, b, c⟩ : T3)] → (0 ≤ x.a ∧ x.a ≤ 3) ∧ (1 ≤ x.b ∧ x.b ≤ 3) ∧ (0 ≤ x.c ∧ x.c ≤ 59) := fun z hz => by
  rcases List.mem_append.1 hz with hz | hz
  · exact h z hz
  · obtain rfl : z = ⟨a, b, c⟩ := by simpa using hz
    exact hn
set_option maxRecDepth 100000 in
set_option maxHeartbeats 1600000 in
theorem l29Zones_any (g : Nat) (w : World) (hc : Cur w g) : Calls Try.prog 25 #[.pointer (some ⟨g, 0, none⟩)] w fun en w' => ∃ (A : Option Addr) (k c : Nat) (l : List T3), en = .returned (.slice A k c) ∧ l.length = k ∧ Zns l ∧ w'.ownsRow w.heap.size 48 3 (.slice A k c) k (l.flatMap T3.v) ∧ Drawn w w' g := by
  have hlow := hc.lt
  have HC := hid hc
  clear hc
  go_enter Try.func25, Try.ntmps25
  go_wp2_with fail
  have HO0 := hid (own_empty w w.heap.size w.heap.size rfl (Nat.le_refl _) 48 3)
  refine (l01Below_any g 3 _ (HC.out.ext (by repeat (first | exact Ext.refl _ | refine Ext.alloc ?_ _ | assumption | refine Ext.over ?_ _ | refine Ext.drew ?_ | refine Ext.drewN ?_ _))) (by omega)).mono ?_
  rintro _ w1 ⟨v, rfl, v0, v1, hd⟩
  obtain ⟨n, hn, hn1, hn3⟩ : ∃ n : Nat, 1 + v = n ∧ 1 ≤ n ∧ n ≤ 3 := ⟨(1 + v).toNat, by omega, by omega, by omega⟩
  have HN := hid hn
  have HO1 := hid (hd.own HO0.out hlow)
  have HD1 := hid (Drawn.of_ext (show Ext w _ by repeat (first | exact Ext.refl _ | refine Ext.alloc ?_ _ | assumption | refine Ext.over ?_ _ | refine Ext.drew ?_ | refine Ext.drewN ?_ _)) hd)
  clear hd HO0 hn
  go_wp2_with fail
  rw [HN.out]
  clear v0 v1 HN
  go_loopw [3, 5] (fun ov kv wr => ∃ (k : Nat) (A : Option Addr) (c : Nat) (l : List T3), k ≤ n ∧ kv = .int .i64 ↑k ∧ ov = .slice A k c ∧ l.length = k ∧ (∀ x, x ∈ l → zok x.a x.b x.c = true) ∧ wr.ownsRow w.heap.size 48 3 (.slice A k c) k (l.flatMap T3.v) ∧ Drawn w wr g) (fun _ kv _ => n - (intOf kv).toNat)
  case atStart => exact ⟨0, _, _, [], by omega, rfl, rfl, rfl, (fun x hx => by cases hx), HO1.out, HD1.out⟩
  case round =>
    clear HO1 HD1
    obtain ⟨k, A, c, l, hk, rfl, rfl, hll, hs, hown, hd⟩ := hrel
    have HS := hid hs
    have HO := hid hown
    have HD := hid hd
    have HLL := hid hll
    clear hs hown hd hll
    by_cases hlt : k < n
    · go_wp2_with fail
      refine (l01Below_any g 20 wr HD.out.2 (by omega)).mono ?_
      rintro _ w2 ⟨a, rfl, a0, a1, hd⟩
      have HD2 := hid (HD.out.trans hd)
      have HO2 := hid (hd.own HO.out hlow)
      clear hd HD HO
      go_wp2_with fail
      refine (l01Below_any g 40 w2 HD2.out.2 (by omega)).mono ?_
      rintro _ w3 ⟨b, rfl, b0, b1, hd⟩
      have HD3 := hid (HD2.out.trans hd)
      have HO3 := hid (hd.own HO2.out hlow)
      clear hd HD2 HO2
      go_wp2_with fail
      have hgs : g < w3.heap.size := HD3.out.2.lt
      have HE := hid (show Ext w3 (w3.alloc (.cells #[.int .i64 14, .int .i64 14, .int .i64 2, .int .i64 12, .int .i64 6, .int .i64 0] 3)) by repeat (first | exact Ext.refl _ | refine Ext.alloc ?_ _ | assumption | refine Ext.over ?_ _ | refine Ext.drew ?_ | refine Ext.drewN ?_ _))
      have HLIT := hid (lit_cells w3 w3.heap.size rfl [.int .i64 14, .int .i64 14, .int .i64 2, .int .i64 12, .int .i64 6, .int .i64 0] 3)
      refine (PickInt_any g (some ⟨w3.heap.size, 0, none⟩) 6 6 [14, 14, 2, 12, 6, 0] _ (HD3.out.2.ext HE.out) (fun _ => ⟨_, _, rfl, fun j u hu => by
        have := HLIT.out j u hu
        rwa [show (⟨w3.heap.size, 0, none⟩ : Addr).add j = ⟨w3.heap.size, 0 + j, none⟩ from by unfold Addr.add; split <;> simp_all] at this⟩) rfl (by omega) (by omega) (fun b off h => by injection h with h; injection h with h; omega)).mono ?_
      rintro _ w4 ⟨u, rfl, hu, hd⟩
      have hub : 0 ≤ u ∧ u ≤ 15 := by simp only [List.mem_cons, List.not_mem_nil, or_false] at hu; omega
      have HD4 := hid (HD3.out.trans (Drawn.of_ext HE.out hd))
      have HO4 := hid (hd.own (own_ext HO3.out HE.out) hlow)
      have HSZ := hid (show w.heap.size ≤ w4.heap.size from HD4.out.size)
      have hlen := HLL.out
      clear hd hu HD3 HO3 HE HLIT hgs
      go_wp2_with (at_builtin; refine wpList_pushG rfl (.tmp 18) (.tmp 28) 34 rfl 48 Try.underlying34 info_ZoneD rfl (by decide) w.heap.size A k c (l.flatMap T3.v) rfl w4 HO4.out (by repeat (first | exact Ext.refl _ | refine Ext.alloc ?_ _ | assumption | refine Ext.over ?_ _ | refine Ext.drew ?_ | refine Ext.drewN ?_ _)) HSZ.out _ 1 1 [.int .i64 a, .int .i64 (a + b), .int .i64 u] rfl rfl (lit_cells _ _ (by first | (simp; done) | simp [ovr_size]) _ _) (by intro z hz; simp at hz; rcases hz with rfl | rfl | rfl <;> rfl) (by omega) (by decide) ?_)
      intro A2 c3 w11 hown hgr
      have HD5 := hid (HD4.out.grown hgr hlow (fun j hj => (HO4.out.lt j hj).1))
      have HO5 := hid (show w11.ownsRow w.heap.size 48 3 (.slice A2 (k + 1) c3) (k + 1) ((l ++ [(⟨a, a + b, u⟩ : T3)]).flatMap T3.v) by rw [List.flatMap_append]; exact hown)
      have HS4 := hid (snocZ HS.out (zok_of (a := a) (b := a + b) (c := u) (by omega) (by omega) hub))
      clear hown hgr HO4 HD4
      go_wp2_with fail
      go_roundw
      case rel => exact ⟨k + 1, A2, c3, l ++ [(⟨a, a + b, u⟩ : T3)], by omega, by go_num, rfl, by rw [List.length_append, hlen]; rfl, HS4.out, HO5.out, HD5.out⟩
      case measure => simp [intOf]; omega
    · obtain rfl : k = n := by omega
      go_wp2_with fail
      go_ret
      exact ⟨A, k, c, l, rfl, HLL.out, ⟨by have := HLL.out; omega, HS.out⟩, HO.out, HD.out⟩
set_option maxRecDepth 100000 in
set_option maxHeartbeats 1600000 in
theorem l29Reports_any (g : Nat) (w : World) (hc : Cur w g) : Calls Try.prog 26 #[.pointer (some ⟨g, 0, none⟩)] w fun en w' => ∃ (A : Option Addr) (k c : Nat) (l : List T3), en = .returned (.slice A k c) ∧ l.length = k ∧ Rps l ∧ w'.ownsRow w.heap.size 43 3 (.slice A k c) k (l.flatMap T3.v) ∧ Drawn w w' g := by
  have hlow := hc.lt
  have HC := hid hc
  clear hc
  go_enter Try.func26, Try.ntmps26
  go_wp2_with fail
  have HO0 := hid (own_empty w w.heap.size w.heap.size rfl (Nat.le_refl _) 43 3)
  refine (l01Below_any g 10 _ (HC.out.ext (by repeat (first | exact Ext.refl _ | refine Ext.alloc ?_ _ | assumption | refine Ext.over ?_ _ | refine Ext.drew ?_ | refine Ext.drewN ?_ _))) (by omega)).mono ?_
  rintro _ w1 ⟨v, rfl, v0, v1, hd⟩
  obtain ⟨n, rfl⟩ : ∃ p : Nat, v = p := ⟨v.toNat, by omega⟩
  have hn9 : n ≤ 9 := by omega
  have HO1 := hid (hd.own HO0.out hlow)
  have HD1 := hid (Drawn.of_ext (show Ext w _ by repeat (first | exact Ext.refl _ | refine Ext.alloc ?_ _ | assumption | refine Ext.over ?_ _ | refine Ext.drew ?_ | refine Ext.drewN ?_ _)) hd)
  clear hd HO0 v0 v1
  go_wp2_with fail
  go_loopw [3, 5] (fun ov kv wr => ∃ (k : Nat) (A : Option Addr) (c : Nat) (l : List T3), k ≤ n ∧ kv = .int .i64 ↑k ∧ ov = .slice A k c ∧ l.length = k ∧ (∀ x, x ∈ l → (0 ≤ x.a ∧ x.a ≤ 3) ∧ (1 ≤ x.b ∧ x.b ≤ 3) ∧ (0 ≤ x.c ∧ x.c ≤ 59)) ∧ wr.ownsRow w.heap.size 43 3 (.slice A k c) k (l.flatMap T3.v) ∧ Drawn w wr g) (fun _ kv _ => n - (intOf kv).toNat)
  case atStart => exact ⟨0, _, _, [], by omega, rfl, rfl, rfl, (fun x hx => by cases hx), HO1.out, HD1.out⟩
  case round =>
    clear HO1 HD1
    obtain ⟨k, A, c, l, hk, rfl, rfl, hll, hs, hown, hd⟩ := hrel
    have HS := hid hs
    have HO := hid hown
    have HD := hid hd
    have HLL := hid hll
    clear hs hown hd hll
    by_cases hlt : k < n
    · go_wp2_with fail
      refine (l01Below_any g 4 wr HD.out.2 (by omega)).mono ?_
      rintro _ w2 ⟨a, rfl, a0, a1, hd⟩
      have HD2 := hid (HD.out.trans hd)
      have HO2 := hid (hd.own HO.out hlow)
      clear hd HD HO
      go_wp2_with fail
      refine (l01Below_any g 3 w2 HD2.out.2 (by omega)).mono ?_
      rintro _ w3 ⟨b, rfl, b0, b1, hd⟩
      have HD3 := hid (HD2.out.trans hd)
      have HO3 := hid (hd.own HO2.out hlow)
      clear hd HD2 HO2
      go_wp2_with fail
      refine (l01Below_any g 60 w3 HD3.out.2 (by omega)).mono ?_
      rintro _ w4 ⟨u, rfl, u0, u1, hd⟩
      have HD4 := hid (HD3.out.trans hd)
      have HO4 := hid (hd.own HO3.out hlow)
      have HSZ := hid (show w.heap.size ≤ w4.heap.size from HD4.out.size)
      have hlen := HLL.out
      clear hd HD3 HO3
      go_wp2_with (at_builtin; refine wpList_pushG rfl (.tmp 17) (.tmp 25) 35 rfl 43 Try.underlying35 info_ReportD rfl (by decide) w.heap.size A k c (l.flatMap T3.v) rfl w4 HO4.out (by repeat (first | exact Ext.refl _ | refine Ext.alloc ?_ _ | assumption | refine Ext.over ?_ _ | refine Ext.drew ?_ | refine Ext.drewN ?_ _)) HSZ.out _ 1 1 [.int .i64 a, .int .i64 (1 + b), .int .i64 u] rfl rfl (lit_cells _ _ (by first | (simp; done) | simp [ovr_size]) _ _) (by intro z hz; simp at hz; rcases hz with rfl | rfl | rfl <;> rfl) (by omega) (by decide) ?_)
      intro A2 c3 w11 hown hgr
      have HD5 := hid (HD4.out.grown hgr hlow (fun j hj => (HO4.out.lt j hj).1))
      have HO5 := hid (show w11.ownsRow w.heap.size 43 3 (.slice A2 (k + 1) c3) (k + 1) ((l ++ [(⟨a, 1 + b, u⟩ : T3)]).flatMap T3.v) by rw [List.flatMap_append]; exact hown)
      have HS4 := hid (snocR HS.out (a := a) (b := 1 + b) (c := u) (by omega))
      clear hown hgr HO4 HD4
      go_wp2_with fail
      go_roundw
      case rel => exact ⟨k + 1, A2, c3, l ++ [(⟨a, 1 + b, u⟩ : T3)], by omega, by go_num, rfl, by rw [List.length_append, hlen]; rfl, HS4.out, HO5.out, HD5.out⟩
      case measure => simp [intOf]; omega
    · obtain rfl : k = n := by omega
      go_wp2_with fail
      go_ret
      exact ⟨A, k, c, l, rfl, HLL.out, ⟨by have := HLL.out; omega, HS.out⟩, HO.out, HD.out⟩
set_option maxRecDepth 100000 in
set_option maxHeartbeats 1600000 in
theorem DrawAlarms_any (A : Option Addr) (n c : Nat) (bs : List Int) (w : World) (hl : Row w A (bs.map (Value.int .u8))) (hn : bs.length = n) (hx : n ≤ 1048576) (hz : ∀ z ∈ bs, 0 ≤ z ∧ z ≤ 255) :
    Calls Try.prog 14 #[.slice A n c] w fun en w' => ∃ (A : Option Addr) (k c : Nat) (l : List T3) (B : Option Addr) (m d : Nat) (r : List T3), en = .returned (.tuple #[.slice A k c, .slice B m d]) ∧ l.length = k ∧ Zns l ∧ r.length = m ∧ Rps r ∧ Row w' A (l.flatMap T3.v) ∧ Row w' B (r.flatMap T3.v) ∧ Ext w w' := by
  have HZ := hid hz
  clear hz
  go_enter Try.func14, Try.ntmps14
  go_wp2_with fail
  refine (l01New_any A n c bs _ (hl.ext (by repeat (first | exact Ext.refl _ | refine Ext.alloc ?_ _ | assumption | refine Ext.over ?_ _ | refine Ext.drew ?_ | refine Ext.drewN ?_ _))) hn hx HZ.out).mono ?_
  rintro _ w1 ⟨g, rfl, hg, hc, he⟩
  have HC := hid hc
  have HE := hid he
  clear hc he
  go_wp2_with fail
  refine (l29Zones_any g w1 HC.out).mono ?_
  rintro _ w2 ⟨A2, k, c2, l, rfl, hll, hf, ho, hd⟩
  have HF := hid hf
  have HR := hid ho
  have HD := hid hd
  have hlow := HC.out.lt
  clear hf ho hd
  go_wp2_with fail
  refine (l29Reports_any g w2 HD.out.2).mono ?_
  rintro _ w3 ⟨B2, m, d2, r, rfl, hrl, hg2, ho, hd⟩
  have HE3 := hid ((HD.out.trans hd).out HE.out hg)
  have HR3 := hid (Row.of_own (hd.own HR.out hlow))
  have HQ3 := hid (Row.of_own ho)
  have HG2 := hid hg2
  clear hd ho hg2
  go_wp2_with fail
  go_ret2
  exact ⟨A2, k, c2, l, B2, m, d2, r, rfl, hll, HF.out, hrl, HG2.out, HR3.out, HQ3.out, HE3.out⟩
end Go.Proofs.Ytmnpipbchcjgnaa
