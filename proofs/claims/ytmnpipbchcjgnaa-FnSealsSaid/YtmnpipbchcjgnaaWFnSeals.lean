/- The walk of FnSeals: it returns true. Conditions: its arguments read as lists. (P30) -/
import Derived.Test.YtmnpipbchcjgnaaDrawSe
import Derived.Test.YtmnpipbchcjgnaaLawB
import Derived.Test.YtmnpipbchcjgnaaGives
import Derived.Test.YtmnpipbchcjgnaaHer6
import Derived.Lib.ConvBytes
import Derived.Lib.SlBytesConst
namespace Go.Proofs.Ytmnpipbchcjgnaa
open Go.RowKit
set_option linter.unusedVariables false
namespace fnSeals
theorem en_set1 : ∀ (l : List EN) (k : Nat) (t : ByteArray), k < l.length → (l.flatMap EN.v).set (k * 3 + 1) (.string t) = (l.set k ⟨(atEN l k).a, t, (atEN l k).c⟩).flatMap EN.v
  | [], k, t, h => by simp at h
  | x :: r, 0, t, h => rfl
  | x :: r, k + 1, t, h => by
    have ih := en_set1 r k t (by simpa using h)
    have e : (k + 1) * 3 + 1 = k * 3 + 1 + 1 + 1 + 1 := by omega
    rw [e]
    show x.v ++ (r.flatMap EN.v).set (k * 3 + 1) (.string t) = _
    rw [ih]; rfl
theorem en_set2 : ∀ (l : List EN) (k : Nat) (c : Int), k < l.length → (l.flatMap EN.v).set (k * 3 + 2) (.int .i64 c) = (l.set k ⟨(atEN l k).a, (atEN l k).b, c⟩).flatMap EN.v
  | [], k, c, h => by simp at h
  | x :: r, 0, c, h => rfl
  | x :: r, k + 1, c, h => by
    have ih := en_set2 r k c (by simpa using h)
    have e : (k + 1) * 3 + 2 = k * 3 + 2 + 1 + 1 + 1 := by omega
    rw [e]
    show x.v ++ (r.flatMap EN.v).set (k * 3 + 2) (.int .i64 c) = _
    rw [ih]; rfl
theorem set_ok {l : List EN} {k : Nat} {y : EN} (h : ∀ x ∈ l, x.ok) (hy : y.ok) : ∀ x ∈ l.set k y, x.ok := fun x hx => by
  rcases List.mem_or_eq_of_mem_set hx with h1 | h1
  · exact h x h1
  · rw [h1]; exact hy
theorem row_set {w : World} {b o g i : Nat} {cs : List Value} (h : Row w (some ⟨b, o, none⟩) cs) (hne : b ≠ g) (u : Value) : Row (w.setCell ⟨g, i, none⟩ u) (some ⟨b, o, none⟩) cs := fun hn => by
  obtain ⟨b', off', e, hc⟩ := h hn
  cases e
  exact ⟨_, _, rfl, fun j v hv => (World.cell?_of_block (Below.heap_setCell w ⟨g, i, none⟩ u b (by intro e; exact hne e))).trans (hc j v hv)⟩
theorem dig_abn : (dig ⟨#[97, 98]⟩ != dig ⟨#[98, 97]⟩) = true := by decide +kernel
theorem mark_cell (w : World) : (w.alloc (.cells #[.int .u8 97] 5 (1, 2))).cell? ⟨w.heap.size, 0 + 0, none⟩ = some (.int .u8 ([97].getD 0 0)) := by
  have h : (w.alloc (.cells #[.int .u8 97] 5 (1, 2))).heap[w.heap.size]? = some (.cells #[.int .u8 97] 5 (1, 2)) := by
    show (w.heap.push _)[w.heap.size]? = _
    simp
  unfold World.cell?
  simp only [h]
  rfl
/-- The bytes of a text, laid anew. -/
theorem bytes_of (w : World) (s : ByteArray) : ∃ cap w', (convert 9 22 (.string s)).run Try.prog w = .ok (.slice (some ⟨w.heap.size, 0, none⟩) s.size cap) w' ∧ Ext w w' ∧ w'.heap.size = w.heap.size + 1 ∧ ∀ j, j < s.size → w'.cell? ⟨w.heap.size, j, none⟩ = some (.int .u8 (byteAt s j)) ∧ w'.frozen? ⟨w.heap.size, j, none⟩ = false := by
  refine ⟨_, _, Go.Lib.run_convert_string_bytes (P := Try.prog) w 9 22 5 s Try.underlying9 Try.underlying22 Try.underlying5, ?_, Go.Lib.bytesWorld_size _ _ _, fun j hj => ⟨?_, ?_⟩⟩
  · refine ⟨by unfold Go.Lib.bytesWorld World.freeze; rw [if_neg (by decide)]; rfl, by unfold Go.Lib.bytesWorld World.freeze; rw [if_neg (by decide)]; rfl, by unfold Go.Lib.bytesWorld World.freeze; rw [if_neg (by decide)]; rfl, by rw [Go.Lib.bytesWorld_size]; omega, fun i hi => Go.Lib.bytesWorld_at_old _ _ _ _ hi⟩
  · rw [Go.Lib.bytesWorld_cell _ _ _ _ hj, byteAt_eq hj]
    have : s.data.toList.getD j 0 = s[j]'hj := by
      have hj' : j < s.data.toList.length := by simpa using hj
      rw [List.getD_eq_getElem?_getD, List.getElem?_eq_getElem hj']; rfl
    rw [this]
  · have hc : (Go.Lib.bytesCells w 5 s).size ≥ s.size := by simp [Go.Lib.bytesCells]
    unfold World.frozen?
    simp only [Go.Lib.bytesWorld_at_new]
    have h2 : ¬ ((Go.Lib.bytesCells w 5 s).size ≤ j) := by omega
    simp [h2]
set_option maxHeartbeats 1600000 in
set_option maxRecDepth 100000 in
theorem walk (w : World) (A0 : Option Addr) (n0 c0 : Nat) (zs0 : List Int) (hr0 : Row w A0 (zs0.map (Value.int .u8))) (hl0 : zs0.length = n0) (hn0 : n0 ≤ maxLen) (hz0 : ∀ z ∈ zs0, 0 ≤ z ∧ z ≤ 255) : Gives Try.prog 3 #[.slice A0 n0 c0] w (.bool true) := by
  unfold maxLen at hn0
  have HZ := hid hz0
  clear hz0
  by_cases hbig : (1048576 : Int) < n0
  · have hb := decide_eq_true hbig
    (unfold Gives; go_enter Try.func3, Try.ntmps3)
    go_wp2_with (go_at_call 5; refine (gives_b hb (big_any _ _ _ _)).over.mono ?_; rintro e w' ⟨rfl, xw, rfl⟩)
    go_ret
    exact ⟨rfl, by repeat (first | exact Ext.refl _ | refine Ext.alloc ?_ _ | assumption | refine Ext.over ?_ _ | refine Ext.drew ?_ | refine Ext.drewN ?_ _)⟩
  have hb := decide_eq_false hbig
  have HAT := hid (fun (i : Nat) w' (e : Ext w w') (hi : i ≤ 100) => at_any A0 n0 c0 zs0 i w' (hr0.ext e) hl0 (by omega) hi HZ.out)
  have HAB := hid (atV_bound HZ.out)
  (unfold Gives; go_enter Try.func3, Try.ntmps3)
  go_wp2_with (go_at_call 5; refine (gives_b hb (big_any _ _ _ _)).over.mono ?_; rintro e w' ⟨rfl, xw, rfl⟩)
  refine (DrawRecord_any A0 n0 c0 zs0 _ (hr0.ext (by repeat (first | exact Ext.refl _ | refine Ext.alloc ?_ _ | assumption | refine Ext.over ?_ _ | refine Ext.drew ?_ | refine Ext.drewN ?_ _))) hl0 (by omega) HZ.out).mono ?_
  rintro _ w1 ⟨A, n, c, l, rfl, hll, hn7, hrec, ho, he⟩
  have HE := hid (Ext.trans (show Ext w _ by repeat (first | exact Ext.refl _ | refine Ext.alloc ?_ _ | assumption | refine Ext.over ?_ _ | refine Ext.drew ?_ | refine Ext.drewN ?_ _)) he)
  have HO := hid ho
  have HLL := hid hll
  have HREC := hid hrec
  obtain ⟨hc1, hc2, hc3⟩ := hrec.app (m := 500) (t := ⟨#[110, 101, 119]⟩) (by omega) (by omega) (by decide) (by omega)
  have HC2 := hid hc2
  have HR2 := hid hc3
  clear ho he hll hrec hbig hb hr0 hl0 hc2 hc3
  go_wp2_with fail
  have happ := iAppend_any A n c l 500 ⟨#[110, 101, 119]⟩ w1 (Row.of_own HO.out) HLL.out (by omega) (by constructor <;> omega) (by decide) (HREC.out.okx (by omega)) (own_none HO.out)
  rw [hc1, HC2.out] at happ
  refine happ.mono ?_
  clear happ hc1
  rintro _ w2 ⟨B, m, d, rfl, ho, he⟩
  obtain ⟨x, hx⟩ : ∃ x, x = l ++ [(⟨500, ⟨#[110, 101, 119]⟩, sealOf (prevSeal l l.length) 500 ⟨#[110, 101, 119]⟩⟩ : EN)] := ⟨_, rfl⟩
  rw [← hx] at ho HR2
  have hxl : x.length = n + 1 := by rw [hx, List.length_append, HLL.out]; rfl
  have hm : m = n + 1 := by have := own_lenEN ho; omega
  subst hm
  have HXL := hid hxl
  have HX2 := hid ho
  have HLR := hid ((Row.of_own HO.out).ext he)
  have HXR := hid (Row.of_own ho)
  have HE2 := hid (HE.out.trans he)
  clear ho he hx hxl HO HE HC2
  have hokx := HR2.out.okx (by omega)
  have hokl := HREC.out.okx (by omega)
  have HOKX := hid hokx
  have HOKL := hid hokl
  have HSL := hid (HREC.out.sealed (by have := HLL.out; omega))
  have HBX := hid HR2.out.broken
  have hps : prevSeal x (n + 1) = (atEN x n).c := rfl
  obtain ⟨bk, off, hB, hc⟩ := HXR.out.en (i := n) (by have := HXL.out; omega)
  obtain ⟨c0', c1', c2'⟩ := hc n (by have := HXL.out; omega)
  obtain ⟨sv, hsv⟩ : ∃ sv, sv = (atEN x n).c := ⟨_, rfl⟩
  obtain ⟨lv, hlv⟩ : ∃ lv, lv = prevSeal l n := ⟨_, rfl⟩
  rw [← hsv] at c2' hps
  have HPS := hid hps
  have HLV := hid hlv
  have HIL := hid (fun w' (e : Ext w2 w') A' n' c' v (h : (A' = B ∧ n' = n + 1 ∧ v = sv) ∨ (A' = A ∧ n' = n ∧ v = lv)) => show Gives Try.prog 10 #[.slice A' n' c'] w' (.int .i64 v) from by
    rcases h with ⟨rfl, rfl, rfl⟩ | ⟨rfl, rfl, rfl⟩
    · exact gives_v HPS.out (iLast_any _ _ _ x w' (HXR.out.ext e) HXL.out (by omega))
    · exact gives_v HLV.out.symm (iLast_any _ _ _ l w' (HLR.out.ext e) HLL.out (by omega)))
  have HSP := hid (fun w' (e : Ext w2 w') => gives_v hlv.symm (sLast_any A n c l w' (HLR.out.ext e) HLL.out (by omega)))
  have HIS := hid (fun w' (e : Ext w2 w') => gives_b HSL.out (iSealed_any A n c l w' (HLR.out.ext e) HLL.out (by omega) hokl))
  have HFB := hid (fun w' (e : Ext w2 w') => gives_v HBX.out (iBroken_any B (n + 1) d x w' (HXR.out.ext e) HXL.out (by omega) hokx))
  clear hc hsv hlv hps hokx hokl c0' c1'
  subst hB
  go_wp2_with fail
  have hnlt : (n : Int) < n + 1 := by omega
  (refine wp_region_calm (by kernel_rfl) (by kernel_rfl) ?_; (repeat (go_big_quiet_step ((first | (go_at_call 8; exact (HIS.out _ (by repeat (first | exact Ext.refl _ | refine Ext.alloc ?_ _ | assumption | refine Ext.over ?_ _ | refine Ext.drew ?_ | refine Ext.drewN ?_ _))).calm) | (go_at_call 9; exact (HFB.out _ (by repeat (first | exact Ext.refl _ | refine Ext.alloc ?_ _ | assumption | refine Ext.over ?_ _ | refine Ext.drew ?_ | refine Ext.drewN ?_ _))).calm) | (go_at_call 11; exact (HSP.out _ (by repeat (first | exact Ext.refl _ | refine Ext.alloc ?_ _ | assumption | refine Ext.over ?_ _ | refine Ext.drew ?_ | refine Ext.drewN ?_ _))).calm) | (go_at_call 10; exact (HIL.out _ (by repeat (first | exact Ext.refl _ | refine Ext.alloc ?_ _ | assumption | refine Ext.over ?_ _ | refine Ext.drew ?_ | refine Ext.drewN ?_ _)) _ _ _ _ (by first | exact .inl ⟨rfl, rfl, rfl⟩ | exact .inr ⟨rfl, rfl, rfl⟩)).calm))))); refine wpQuiet_nil ?_; rintro w1 ⟨x1, rfl⟩)
  have HX3 := hid (HXR.out.ext (show Ext w2 (ovr w2 x1) by repeat (first | exact Ext.refl _ | refine Ext.alloc ?_ _ | assumption | refine Ext.over ?_ _ | refine Ext.drew ?_ | refine Ext.drewN ?_ _)))
  have HE3 := hid (HE2.out.trans (show Ext w2 (ovr w2 x1) by repeat (first | exact Ext.refl _ | refine Ext.alloc ?_ _ | assumption | refine Ext.over ?_ _ | refine Ext.drew ?_ | refine Ext.drewN ?_ _)))
  clear HIS HFB HSP HIL HLR HXR HE2 c2' HX2
  generalize ovr w2 x1 = w3 at HX3 HE3 ⊢
  go_wp2_with fail
  refine (HAT.out 0 _ HE3.out (by omega)).mono ?_
  rintro _ w4 ⟨rfl, he⟩
  have HX4 := hid (HX3.out.ext he)
  have HE4 := hid (HE3.out.trans he)
  have hb0 := HAB.out 0
  generalize atV zs0 0 = av at hb0 ⊢
  obtain ⟨k, hk⟩ : ∃ k : Nat, (k : Int) = av % ((n : Int) + 1) := ⟨(av % ((n : Int) + 1)).toNat, by
    have := Int.emod_nonneg av (show (n : Int) + 1 ≠ 0 by omega); omega⟩
  have hkn : k < n + 1 := by have := Int.emod_lt_of_pos av (show (0 : Int) < (n : Int) + 1 by omega); omega
  have HK := hid hk
  clear he HX3 HE3 hk
  have hnn : ¬ (n : Int) + 1 = 0 := by omega
  go_wp2_with (at_builtin; refine wpList_pushS w4 rfl (.tmp 64) (.tmp 65) 24 rfl 31 Try.underlying24 info_EntryA rfl (by decide) _ 0 [] rfl _ (own_empty w4 _ _ rfl (Nat.le_refl _) _ _) (by repeat (first | exact Ext.refl _ | refine Ext.alloc ?_ _ | assumption | refine Ext.over ?_ _ | refine Ext.drew ?_ | refine Ext.drewN ?_ _)) (by repeat (first | exact Ext.refl _ | refine Ext.alloc ?_ _ | assumption | refine Ext.over ?_ _ | refine Ext.drew ?_ | refine Ext.drewN ?_ _)) (some ⟨bk, off, none⟩) (n + 1) d (x.flatMap EN.v) rfl (fun h => by cases h) (by rw [flat_len _ 3 EN.len, HXL.out]) (HX4.out.ext (by repeat (first | exact Ext.refl _ | refine Ext.alloc ?_ _ | assumption | refine Ext.over ?_ _ | refine Ext.drew ?_ | refine Ext.drewN ?_ _))) en_one (by omega) (by decide) ?_)
  intro A5 c5 w5 hown he
  rw [← HK.out]
  obtain ⟨g5, rfl⟩ := own_addr hown (by omega)
  have HO5 := hid hown
  have HX5 := hid (HX4.out.ext he)
  have hbk : bk < w4.heap.size := by
    obtain ⟨_, _, e4, hc4⟩ := HX4.out.en (i := 0) (by have := HXL.out; omega)
    cases e4
    exact World.block_lt_of_cell? w4 _ (hc4 0 (by have := HXL.out; omega)).1
  have hw4 := HE4.out.size
  have HE5 := hid (HE4.out.trans he)
  have hkx : k < x.length := by have := HXL.out; omega
  have hg5 : w4.heap.size ≤ g5 ∧ g5 < w5.heap.size := hown.lt g5 rfl
  clear hown he HX4 HE4 HK hb0
  have hkt : (k : Int) < n + 1 := by omega
  obtain ⟨b5, o5, e5, hc5⟩ := (Row.of_own HO5.out).en hkx
  cases e5
  obtain ⟨t0, t1, t2⟩ := hc5 k hkx
  have HTS := hid (HR2.out.bd _ (atEN_mem hkx)).2.1
  have HNX := hid (fun t (h1 : t.size ≤ 200) (h2 : dig t ≠ dig (atEN x k).b) => broken_text HR2.out (by omega) hkx h1 h2)
  have HNS := hid (fun c (h2 : c ≠ (atEN x k).c) => broken_seal HR2.out hkx (c := c) h2)
  have HXB := hid (HR2.out.bd _ (atEN_mem hkx)).2.2
  have HXA := hid (HR2.out.bd _ (atEN_mem hkx)).1
  have HST := hid (fun t => en_set1 x k t hkx)
  have HSS := hid (fun c => en_set2 x k c hkx)
  obtain ⟨xa, hxa⟩ : ∃ xa, xa = (atEN x k).a := ⟨_, rfl⟩
  obtain ⟨tx, htx⟩ : ∃ tx, tx = (atEN x k).b := ⟨_, rfl⟩
  obtain ⟨xc, hxc⟩ : ∃ xc, xc = (atEN x k).c := ⟨_, rfl⟩
  rw [← hxa] at t0 HXA
  rw [← htx] at t1 HTS
  rw [← hxc] at t2 HXB
  rw [← hxa, ← hxc, ← htx] at HNX
  rw [← hxc, ← hxa, ← htx] at HNS
  rw [← hxa, ← hxc] at HST
  rw [← hxa, ← htx] at HSS
  have HXC := hid hxc
  clear hxa htx hxc hc5
  rw [Nat.zero_add] at t0 t1 t2
  obtain ⟨cap6, w6, hcv, he6, hs6, hb6⟩ := bytes_of w5 tx
  have HS6 := hid hs6
  clear hs6
  have f1 := HO5.out.frozenAt (k * 3 + 1)
  by_cases hsz : tx.size = 0
  case' pos =>
    have hsz0 : ((tx.size : Int) == 0) = true := by rw [beq_iff_eq]; omega
    have HNX1 := hid (HNX.out (strOfNums [97]) (by decide) (by rw [dig_a, dig_empty hsz]; decide))
    have HST1 := hid (HST.out (strOfNums [97]))
    have kc := fun (w : World) (C : Array Value) (n c : Nat) => Go.Lib.run_convert_bytes_const (P := Try.prog) w 22 5 C n c Try.underlying22 Try.underlying5
    have hx7 : Ext w6 (w6.alloc (.cells #[.int .u8 97] 5 (1, 2))) := by repeat (first | exact Ext.refl _ | refine Ext.alloc ?_ _ | assumption | refine Ext.over ?_ _ | refine Ext.drew ?_ | refine Ext.drewN ?_ _)
    have HO7 := hid (own_ext (own_ext HO5.out he6) hx7)
    have HX7 := hid ((HX5.out.ext he6).ext hx7)
    have HE7 := hid ((HE5.out.trans he6).trans hx7)
    have t1 := old_cell (he6.trans hx7) t1
    have f1 := HO7.out.frozenAt (k * 3 + 1)
    have hcv2 : (convert 22 9 (.slice (some ⟨w6.heap.size, 0, none⟩) 1 1)).run Try.prog (w6.alloc (.cells #[.int .u8 97] 5 (1, 2))) = .ok (.string (strOfNums [97])) (w6.alloc (.cells #[.int .u8 97] 5 (1, 2))) :=
      run_convert_bytes_arg _ 22 5 Try.underlying22 Try.underlying5 _ 0 1 1 [97] rfl (fun i hi => by
        obtain rfl : i = 0 := by omega
        exact mark_cell w6) _ Try.underlying9
    have HBD := hid (show ((w6.alloc (.cells #[.int .u8 97] 5 (1, 2))).setCell ⟨g5, k * 3 + 1, none⟩ (.string (strOfNums [97]))).ownsRow w4.heap.size 31 3 (.slice (some ⟨g5, 0, none⟩) (n + 1) c5) (n + 1) ((x.set k ⟨xa, strOfNums [97], xc⟩).flatMap EN.v) by
      rw [← HST1.out]; exact (HO7.out.stored (k * 3 + 1) (.string (strOfNums [97]))).1)
    have HX9 := hid (row_set (i := k * 3 + 1) HX7.out (show bk ≠ g5 by omega) (.string (strOfNums [97])))
    have HE9 := hid (HE7.out.setCell (p := ⟨g5, k * 3 + 1, none⟩) (by show w.heap.size ≤ g5; omega) (.string (strOfNums [97])))
    have HTZ := hid (show (strOfNums [97]).size ≤ 9223372036854775807 by decide)
    clear hsz hx7
    go_wp2_with fail
    clear hcv hcv2 kc t0 t1 t2 f1
    generalize strOfNums [97] = tt at HBD HNX1 HTZ HX9 HE9 ⊢
    generalize (w6.alloc (.cells #[.int .u8 97] 5 (1, 2))).setCell ⟨g5, k * 3 + 1, none⟩ (.string tt) = w9 at HBD HX9 HE9 ⊢
  case' neg =>
    have hsz0 : ((tx.size : Int) == 0) = false := by rw [beq_eq_false_iff_ne]; omega
    have hsz1 : ¬ (tx.size : Int) = 0 := by omega
    have hsz2 : ¬ tx.size = 0 := hsz
    go_wp2_with fail
    refine (HAT.out 1 _ (HE5.out.trans he6) (by omega)).mono ?_
    rintro _ w7 ⟨rfl, he7⟩
    have hb1 := HAB.out 1
    generalize atV zs0 1 = av at hb1 ⊢
    have hts := HTS.out
    obtain ⟨i, hi⟩ : ∃ i : Nat, (i : Int) = av % (tx.size : Int) := ⟨(av % (tx.size : Int)).toNat, by
      have := Int.emod_nonneg av (show (tx.size : Int) ≠ 0 by omega); omega⟩
    have hin : i < tx.size := by have := Int.emod_lt_of_pos av (show (0 : Int) < tx.size by omega); omega
    have hit : (i : Int) < tx.size := by omega
    have HI := hid hi
    have hb6i := hb6 i hin
    have y1 := old_cell he7 hb6i.1
    have y2 := (Below.frozen he7 (World.block_lt_of_cell? w6 _ hb6i.1)).trans hb6i.2
    have hbb := byteAt_lt tx i
    have HB6 := hid hb6
    clear hi hb6 hb6i hts hcv
    have t1 := old_cell (he6.trans he7) t1
    have HO7 := hid (own_ext (own_ext HO5.out he6) he7)
    have HX7 := hid ((HX5.out.ext he6).ext he7)
    have HE7 := hid ((HE5.out.trans he6).trans he7)
    have HQ7 := hid he7
    have f1 := HO7.out.frozenAt (k * 3 + 1)
    clear he6 he7 hsz
    obtain ⟨bv, hbv⟩ : ∃ bv, bv = byteAt tx i := ⟨_, rfl⟩
    rw [← hbv] at y1 hbb
    have HBV := hid hbv
    clear hbv
    have hmod := HI.out.symm
    have hcv2 : (convert 22 9 (.slice (some ⟨w5.heap.size, 0, none⟩) tx.size cap6)).run Try.prog (w7.setCell ⟨w5.heap.size, i, none⟩ (.int .u8 ((bv + 1) % 256))) = .ok (.string (chg tx i)) (w7.setCell ⟨w5.heap.size, i, none⟩ (.int .u8 ((bv + 1) % 256))) :=
      run_convert_bytes_arg _ 22 5 Try.underlying22 Try.underlying5 _ 0 tx.size cap6 ((bytesL tx).set i ((byteAt tx i + 1) % 256)) (by rw [List.length_set, bytesL_len]) (fun j hj => by
        rw [Nat.zero_add, List.getD_eq_getElem?_getD]
        by_cases hji : j = i
        · subst hji
          rw [List.getElem?_set_self (by rw [bytesL_len]; exact hj), ← HBV.out]
          go_simp
        · rw [List.getElem?_set_ne (fun e => hji e.symm), ← List.getD_eq_getElem?_getD, bytesL_get hj]
          have := old_cell HQ7.out (HB6.out j hj).1
          have hne : ¬ i = j := fun e => hji e.symm
          go_simp) _ Try.underlying9
    have HNX1 := hid (HNX.out (chg tx i) (by rw [chg_size]; have := HTS.out; omega) (chg_dig (by have := HTS.out; omega) hin))
    have HST1 := hid (HST.out (chg tx i))
    have HO8 := hid (HO7.out.kept (only_setCell (World.grownBy.refl w7 _) (g := w5.heap.size) (p := ⟨w5.heap.size, i, none⟩) (.inl rfl) (.int .u8 ((bv + 1) % 256))) (.inr (by simp [Value.ownBlock]; omega)))
    have HBD := hid (show ((w7.setCell ⟨w5.heap.size, i, none⟩ (.int .u8 ((bv + 1) % 256))).setCell ⟨g5, k * 3 + 1, none⟩ (.string (chg tx i))).ownsRow w4.heap.size 31 3 (.slice (some ⟨g5, 0, none⟩) (n + 1) c5) (n + 1) ((x.set k ⟨xa, chg tx i, xc⟩).flatMap EN.v) by
      rw [← HST1.out]; exact (HO8.out.stored (k * 3 + 1) (.string (chg tx i))).1)
    have HX9 := hid (row_set (i := k * 3 + 1) (row_set (i := i) HX7.out (show bk ≠ w5.heap.size by omega) (.int .u8 ((bv + 1) % 256))) (show bk ≠ g5 by omega) (.string (chg tx i)))
    have HE9 := hid ((HE7.out.setCell (p := ⟨w5.heap.size, i, none⟩) (by show w.heap.size ≤ w5.heap.size; omega) (.int .u8 ((bv + 1) % 256))).setCell (p := ⟨g5, k * 3 + 1, none⟩) (by show w.heap.size ≤ g5; omega) (.string (chg tx i)))
    have HTZ := hid (show (chg tx i).size ≤ 9223372036854775807 by rw [chg_size]; have := HTS.out; omega)
    have hne5 : ¬ g5 = w5.heap.size := by omega
    have hne6 : ¬ w5.heap.size = g5 := by omega
    go_wp2_with fail
    clear hcv2 t0 t1 t2 f1 y1 y2
    generalize chg tx i = tt at HBD HNX1 HTZ HX9 HE9 ⊢
    generalize (w7.setCell ⟨w5.heap.size, i, none⟩ (.int .u8 ((bv + 1) % 256))).setCell ⟨g5, k * 3 + 1, none⟩ (.string tt) = w9 at HBD HX9 HE9 ⊢
  all_goals
    have hxa0 := HXA.out
    have hxc0 := HXB.out
    have HOKY := hid (fun (u : ByteArray) (hu : u.size ≤ 9223372036854775807) (z : Int) (hz : i64r z) => show EN.ok ⟨xa, u, z⟩ from ⟨(⟨by omega, by omega⟩ : i64r xa), hu, hz⟩)
    have HOKB := hid (set_ok (k := k) (y := ⟨xa, tt, xc⟩) HOKX.out (HOKY.out tt HTZ.out xc (⟨by omega, by omega⟩ : i64r xc)))
    refine (gives_v HNX1.out (iBroken_any (some ⟨g5, 0, none⟩) (n + 1) c5 (x.set k ⟨xa, tt, xc⟩) w9 (Row.of_own HBD.out) (by rw [List.length_set]; exact HXL.out) (by omega) HOKB.out)).mono ?_
    rintro _ w10 ⟨rfl, he⟩
    have HX10 := hid (HX9.out.ext he)
    have HE10 := hid (HE9.out.trans he)
    have HS10 := hid HE10.out.size
    clear he HX9 HE9 HBD HNX1 HST1 HTZ HOKB
    go_wp2_with (at_builtin; refine wpList_pushS w10 rfl (.tmp 101) (.tmp 102) 24 rfl 31 Try.underlying24 info_EntryA rfl (by decide) _ 0 [] rfl _ (own_empty w10 _ _ rfl (Nat.le_refl _) _ _) (by repeat (first | exact Ext.refl _ | refine Ext.alloc ?_ _ | assumption | refine Ext.over ?_ _ | refine Ext.drew ?_ | refine Ext.drewN ?_ _)) (by repeat (first | exact Ext.refl _ | refine Ext.alloc ?_ _ | assumption | refine Ext.over ?_ _ | refine Ext.drew ?_ | refine Ext.drewN ?_ _)) (some ⟨bk, off, none⟩) (n + 1) d (x.flatMap EN.v) rfl (fun h => by cases h) (by rw [flat_len _ 3 EN.len, HXL.out]) (HX10.out.ext (by repeat (first | exact Ext.refl _ | refine Ext.alloc ?_ _ | assumption | refine Ext.over ?_ _ | refine Ext.drew ?_ | refine Ext.drewN ?_ _))) en_one (by omega) (by decide) ?_)
    intro A11 c11 w11 hown he
    obtain ⟨g11, rfl⟩ := own_addr hown (by omega)
    have HO11 := hid hown
    have HE11 := hid (HE10.out.trans he)
    clear hown he HX10 HE10
    obtain ⟨b12, o12, e12, hc12⟩ := (Row.of_own HO11.out).en hkx
    cases e12
    obtain ⟨s0, s1, s2⟩ := hc12 k hkx
    rw [Nat.zero_add] at s0 s1 s2
    rw [← HXC.out] at s2
    obtain ⟨a2, ha2⟩ : ∃ a2, a2 = atV zs0 2 := ⟨_, rfl⟩
    have HA2 := hid (fun w' (e : Ext w w') => gives_v ha2.symm (HAT.out 2 w' e (by omega)))
    have hb2 : 0 ≤ a2 ∧ a2 ≤ 255 := by rw [ha2]; exact HAB.out 2
    have hxcb := HXB.out
    have hw1 : IntKind.i64.wrap (xc + 1) = xc + 1 := IntWalk.i64_in _ (by omega)
    have hw2 : IntKind.i64.wrap (xc + 1 + a2) = xc + 1 + a2 := IntWalk.i64_in _ (by omega)
    have hg11 := HO11.out.lt g11 rfl
    clear hc12 ha2
    go_wp2_with fail
    have hgx : ¬ g11 = w11.heap.size := by omega
    refine wp_region_e (LaterG w11.heap.size w11.heap.size) (laterG_steady _ _) [.q 0, .q 1, .q 2, .q 3, .q 4, .q 5, .q 6, .q 7, .q 8, .u 9, .u 10, .u 11, .u 12, .u 13] 14 _ rfl (by kernel_rfl) (by kernel_rfl) (fun w12 e12 => ?_)
    have e12' : Ext w11 w12 := Ext.trans (by repeat (first | exact Ext.refl _ | refine Ext.alloc ?_ _ | assumption | refine Ext.over ?_ _ | refine Ext.drew ?_ | refine Ext.drewN ?_ _)) e12
    have HO12 := hid (own_ext HO11.out e12')
    have HE12 := hid (HE11.out.trans e12')
    have s2 := old_cell e12' s2
    clear e12 e12' HO11 HE11
    simp only [pick, List.getElem?_cons_succ, List.getElem?_cons_zero]
    repeat (refine wpE_q (fun K hK => ?_); go_simp; refine hK _ ?_; clear hK K)
    refine wpE_u ?_
    refine stepH_of (fun K hK => ?_)
    go_simp
    refine (HA2.out w12 HE12.out).mono ?_
    rintro _ w13 ⟨rfl, he⟩
    refine ⟨_, rfl, hK _ _ (laterG_of (Kept.of_ext he)) ?_⟩; clear hK K
    have HO13 := hid (own_ext HO12.out he)
    have HE13 := hid (HE12.out.trans he)
    have s2 := old_cell he s2
    have f13 := HO13.out.frozenAt (k * 3 + 2)
    clear he HO12 HE12
    ((first | refine wpE_u ?_ | skip); refine stepH_of (fun K hK => ?_); go_simp; refine hK _ _ (laterG_of (Kept.refl _ _ _)) ?_; clear hK K)
    ((first | refine wpE_u ?_ | skip); refine stepH_of (fun K hK => ?_); go_simp; refine hK _ _ (laterG_of (Kept.refl _ _ _)) ?_; clear hK K)
    ((first | refine wpE_u ?_ | skip); refine stepH_of (fun K hK => ?_); go_simp; refine hK _ _ (laterG_of (Kept.refl _ _ _)) ?_; clear hK K)
    ((first | refine wpE_u ?_ | skip); refine stepH_of (fun K hK => ?_); go_simp; refine hK _ _ (laterG_of (Kept.refl _ _ _)) ?_; clear hK K)
    refine wpE_nil (fun K hK => ?_)
    go_simp
    refine hK _ _ ?_; clear hK K
    obtain ⟨cv, hcv⟩ : ∃ cv, cv = Int.tmod (xc + 1 + a2) 1000003 := ⟨_, rfl⟩
    have hcv2 : cv ≠ xc ∧ 0 ≤ cv ∧ cv ≤ 1000002 := by
      rw [Int.tmod_eq_emod_of_nonneg (by omega)] at hcv
      omega
    rw [← hcv]
    have HNS1 := hid (HNS.out cv hcv2.1)
    have HOKC := hid (set_ok (k := k) (y := ⟨xa, tx, cv⟩) HOKX.out (HOKY.out tx (by have := HTS.out; omega) cv (⟨by omega, by omega⟩ : i64r cv)))
    have HBD := hid (show (w13.setCell ⟨g11, k * 3 + 2, none⟩ (.int .i64 cv)).ownsRow w10.heap.size 31 3 (.slice (some ⟨g11, 0, none⟩) (n + 1) c11) (n + 1) ((x.set k ⟨xa, tx, cv⟩).flatMap EN.v) by
      rw [← HSS.out cv]; exact (HO13.out.stored (k * 3 + 2) (.int .i64 cv)).1)
    have hsz10 : w.heap.size ≤ g11 := by
      have h1 := hg11.1
      have h2 := HS10.out
      omega
    have HE14 := hid (HE13.out.setCell (p := ⟨g11, k * 3 + 2, none⟩) (by show w.heap.size ≤ g11; omega) (.int .i64 cv))
    have HSE := hid (sealed_no HNS1.out)
    have hlc : (x.set k ⟨xa, tx, cv⟩).length = n + 1 := by rw [List.length_set]; exact HXL.out
    have HLC := hid hlc
    clear hcv s0 s1 s2 f13 hlc HO13 HE13
    generalize w13.setCell ⟨g11, k * 3 + 2, none⟩ (.int .i64 cv) = w14 at HBD HE14 ⊢
    have HFB2 := hid (fun w' (e : Ext w14 w') => gives_v HNS1.out (iBroken_any (some ⟨g11, 0, none⟩) (n + 1) c11 (x.set k ⟨xa, tx, cv⟩) w' ((Row.of_own HBD.out).ext e) HLC.out (by omega) HOKC.out))
    have HIS2 := hid (fun w' (e : Ext w14 w') => gives_b HSE.out (iSealed_any (some ⟨g11, 0, none⟩) (n + 1) c11 (x.set k ⟨xa, tx, cv⟩) w' ((Row.of_own HBD.out).ext e) HLC.out (by omega) HOKC.out))
    go_wp2_with (first | (go_at_call 9; refine (HFB2.out _ (by repeat (first | exact Ext.refl _ | refine Ext.alloc ?_ _ | assumption | refine Ext.over ?_ _ | refine Ext.drew ?_ | refine Ext.drewN ?_ _))).over.mono ?_; rintro e w' ⟨rfl, xw, rfl⟩) | (go_at_call 8; refine (HIS2.out _ (by repeat (first | exact Ext.refl _ | refine Ext.alloc ?_ _ | assumption | refine Ext.over ?_ _ | refine Ext.drew ?_ | refine Ext.drewN ?_ _))).over.mono ?_; rintro e w' ⟨rfl, xw, rfl⟩) | (go_at_call 13; refine (iDigest_any _ (by decide) _).over.mono ?_; rintro e w' ⟨rfl, xw, rfl⟩))
    go_ret
    exact ⟨by rw [show (dig ⟨#[97, 98]⟩ != dig ⟨#[98, 97]⟩) = true from dig_abn]; rfl, HE14.out.trans (by repeat (first | exact Ext.refl _ | refine Ext.alloc ?_ _ | assumption | refine Ext.over ?_ _ | refine Ext.drew ?_ | refine Ext.drewN ?_ _))⟩
end fnSeals
end Go.Proofs.Ytmnpipbchcjgnaa
