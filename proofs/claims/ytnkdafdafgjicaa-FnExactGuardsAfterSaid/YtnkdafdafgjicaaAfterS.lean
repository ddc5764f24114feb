/- Walks: GuardsAfter of the reference. Conditions: sizes. -/
import Derived.Test.YtnkdafdafgjicaaForI
import Derived.Test.YtnkdafdafgjicaaBorder
namespace Go.Proofs.Ytnkdafdafgjicaa
open Go.RowKit
set_option linter.unusedVariables false

theorem gaL_set {l : List T2} {h : Nat} {o : List Int} (h0 : ∀ j, j < o.length → 0 ≤ atI o j) : gaL (setTo o o.length).testBit l h = gaL (memN o) l h :=
  gaL_congr fun j _ => by rw [setTo_mem (Nat.le_refl _) h0 j, List.take_length]; rfl
set_option maxHeartbeats 3200000 in
set_option maxRecDepth 100000 in
theorem sAfter_any (h : Int) (A : Option Addr) (n c : Nat) (l : List T2) (B : Option Addr) (m d : Nat) (s : List Int) (w : World) (hl : Row w A (l.flatMap T2.v)) (hn : l.length = n) (hx : n ≤ 1048577) (hs : Row w B (s.map (Value.int .i64))) (hm : s.length = m) (hy : m ≤ 1048577) :
    Calls Try.prog 18 #[.agg #[.int .i64 h, .slice A n c], .slice B m d] w fun en w' => ∃ A' m' c', en = .returned (.slice A' m' c') ∧ w'.ownsRow w.heap.size 3 1 (.slice A' m' c') m' ((guardsOf h l s).map (Value.int .i64)) ∧ Ext w w' := by
  subst hn hm
  have hl0 := hid hl
  obtain ⟨wb, hwb⟩ : ∃ wb, wb = w.alloc (.cells #[.int .i64 h, .slice A l.length c] 30) := ⟨_, rfl⟩
  have hew : Ext w wb := by rw [hwb]; repeat (first | exact Ext.refl _ | refine Ext.alloc ?_ _ | assumption | refine Ext.over ?_ _ | refine Ext.drew ?_ | refine Ext.drewN ?_ _)
  have hsz := hid (show wb.heap.size = w.heap.size + 1 by rw [hwb]; simp)
  have hb0 : wb.cell? ⟨w.heap.size, 0, none⟩ = some (.int .i64 h) := by rw [hwb]; go_simp
  have hb1 : wb.cell? ⟨w.heap.size, 1, none⟩ = some (.slice A l.length c) := by rw [hwb]; go_simp
  go_enter Try.func18, Try.ntmps18
  go_wp2_with fail
  obtain ⟨wc, hwc⟩ : ∃ wc, wc = wb.alloc (.cells #[] 3) := ⟨_, rfl⟩
  have hec : Ext wb wc := by rw [hwc]; repeat (first | exact Ext.refl _ | refine Ext.alloc ?_ _ | assumption | refine Ext.over ?_ _ | refine Ext.drew ?_ | refine Ext.drewN ?_ _)
  have HO0 := hid (show wc.ownsRow wb.heap.size 3 1 (.slice (some ⟨wb.heap.size, 0, none⟩) 0 0) 0 [] by rw [hwc]; exact own_empty wb wb.heap.size wb.heap.size rfl (Nat.le_refl _) 3 1)
  go_loopw [6, 7] (fun sv iv wr => ∃ (k : Nat), k ≤ s.length ∧ (∀ j, j < k → hasHall h l (atI s j) = true) ∧ iv = .int .i64 ↑k ∧ sv = .int .i64 (setTo s k) ∧ Ext wc wr) (fun _ iv _ => (s.length - (intOf iv).toNat))
  case atStart => exact ⟨0, by omega, by omega, rfl, rfl, by rw [hwc, hwb]; repeat (first | exact Ext.refl _ | refine Ext.alloc ?_ _ | assumption | refine Ext.over ?_ _ | refine Ext.drew ?_ | refine Ext.drewN ?_ _)⟩
  case round =>
    obtain ⟨k, hkn, hin, rfl, rfl, he⟩ := hrel
    have HE := hid he
    have HI := hid hin
    have hEw := hew.trans (hec.trans he)
    have HL := hid (hl.ext hEw)
    have hO := hs.ext hEw
    have HEw := hid hEw
    have b0 := old_cell (hec.trans he) hb0
    have b1 := old_cell (hec.trans he) hb1
    have hblk : (Value.slice (some ⟨wb.heap.size, 0, none⟩) 0 0) = .slice (some ⟨w.heap.size + 1, 0, none⟩) 0 0 := by rw [hsz.out]
    have HO := hid (hblk ▸ own_ext HO0.out he)
    clear hin hwb hwc
    by_cases hlt : k < s.length
    · cases hv : hasHall h l (atI s k)
      · have HB := hid (guardsOf_no (show halls h l s = false by
          cases hk : houseOk h l
          · exact halls_no hk
          · exact halls_out hlt (by unfold inH; unfold hasHall at hv; rw [hk] at hv; exact hv)))
        obtain ⟨ob, off, rfl, hc⟩ := hO.ints hlt
        have c1 := hc k hlt
        clear hc he hs hl hO hEw hblk
        go_wp2_with fail
        (refine wp_region_calm (by kernel_rfl) (by kernel_rfl) ?_; (repeat (go_big_quiet_step ((go_at_call 31; exact (gives_b hv (l23Has_any _ _ _ _ l _ _ (HL.out.ext (by repeat (first | exact Ext.refl _ | refine Ext.alloc ?_ _ | assumption | refine Ext.over ?_ _ | refine Ext.drew ?_ | refine Ext.drewN ?_ _))) rfl hx)).calm)))); refine wpQuiet_nil ?_; rintro w1 ⟨x1, rfl⟩)
        go_wp2_with fail
        go_ret
        rw [HB.out]
        exact ⟨_, _, _, rfl, own_base (own_ext HO.out (by repeat (first | exact Ext.refl _ | refine Ext.alloc ?_ _ | assumption | refine Ext.over ?_ _ | refine Ext.drew ?_ | refine Ext.drewN ?_ _))) (by have := hsz.out; omega), HEw.out.trans (by repeat (first | exact Ext.refl _ | refine Ext.alloc ?_ _ | assumption | refine Ext.over ?_ _ | refine Ext.drew ?_ | refine Ext.drewN ?_ _))⟩
      · obtain ⟨hk, h0, hh⟩ := hasHall_iff.1 hv
        obtain ⟨_, h1, h7, h12⟩ := houseOk_bounds hk
        have hsb := setTo_lt hkn (fun j hj => by
          have := hasHall_iff.1 (HI.out j hj)
          omega)
        obtain ⟨S, hS⟩ : ∃ S, S = setTo s k := ⟨_, rfl⟩
        rw [← hS] at hsb ⊢
        have HS := hid hS
        obtain ⟨ob, off, rfl, hc⟩ := hO.ints hlt
        have c1 := hc k hlt
        obtain ⟨x, hxv⟩ : ∃ x : Nat, x = (atI s k).toNat := ⟨_, rfl⟩
        have hxx : atI s k = x := by omega
        have hx7 : x < 7 := by omega
        obtain ⟨hor, hor'⟩ := or_bit hsb hx7
        have HX := hid hxv
        have HV := hid hv
        rw [hxx] at c1 hv
        have HW := hid (show S ||| 2 ^ x = setTo s (k + 1) by
          show _ = setTo s k ||| 2 ^ (atI s k).toNat
          rw [HS.out, HX.out])
        clear hc he hs hl hO hEw hblk hxv hxx hk hS
        go_wp2_with fail
        (refine wp_region_calm (by kernel_rfl) (by kernel_rfl) ?_; (repeat (go_big_quiet_step ((go_at_call 31; exact (gives_b hv (l23Has_any _ _ _ _ l _ _ (HL.out.ext (by repeat (first | exact Ext.refl _ | refine Ext.alloc ?_ _ | assumption | refine Ext.over ?_ _ | refine Ext.drew ?_ | refine Ext.drewN ?_ _))) rfl hx)).calm)))); refine wpQuiet_nil ?_; rintro w1 ⟨x1, rfl⟩)
        go_wp2_with fail
        go_roundw
        case rel => exact ⟨k + 1, by omega, lt_succ_all HI.out HV.out, by go_num, by rw [← HW.out], HE.out.trans (by repeat (first | exact Ext.refl _ | refine Ext.alloc ?_ _ | assumption | refine Ext.over ?_ _ | refine Ext.drew ?_ | refine Ext.drewN ?_ _))⟩
        case measure => simp [intOf]; omega
    · obtain rfl : k = s.length := by omega
      cases hk : houseOk h l
      · have HB := hid (guardsOf_no (halls_no (g := s) hk))
        clear he hs hl hO hEw hblk
        rename World => wo
        go_wp2_with fail
        go_loopw [5, 8] (fun o i wr => i = .int .i64 0 ∧ o = .slice (some ⟨w.heap.size + 1, 0, none⟩) 0 0 ∧ wr = wo) (fun _ _ _ => 0)
        case atStart => exact ⟨rfl, by first | rfl | (rw [hsz.out]), rfl⟩
        case round =>
          obtain ⟨rfl, rfl, rfl⟩ := hrel
          by_cases h0 : 0 < h
          · go_wp2_with (go_at_call 38; refine (gives_b hk (sHouseOk_any _ _ _ _ l _ (HL.out.ext (by repeat (first | exact Ext.refl _ | refine Ext.alloc ?_ _ | assumption | refine Ext.over ?_ _ | refine Ext.drew ?_ | refine Ext.drewN ?_ _))) rfl hx)).over.mono ?_; rintro e w' ⟨rfl, xw, rfl⟩)
            go_ret
            rw [HB.out]
            exact ⟨_, _, _, rfl, own_base (own_ext HO.out (by repeat (first | exact Ext.refl _ | refine Ext.alloc ?_ _ | assumption | refine Ext.over ?_ _ | refine Ext.drew ?_ | refine Ext.drewN ?_ _))) (by have := hsz.out; omega), HEw.out.trans (by repeat (first | exact Ext.refl _ | refine Ext.alloc ?_ _ | assumption | refine Ext.over ?_ _ | refine Ext.drew ?_ | refine Ext.drewN ?_ _))⟩
          · go_wp2_with fail
            go_ret
            rw [HB.out]
            exact ⟨_, _, _, rfl, own_base (own_ext HO.out (by repeat (first | exact Ext.refl _ | refine Ext.alloc ?_ _ | assumption | refine Ext.over ?_ _ | refine Ext.drew ?_ | refine Ext.drewN ?_ _))) (by have := hsz.out; omega), HEw.out.trans (by repeat (first | exact Ext.refl _ | refine Ext.alloc ?_ _ | assumption | refine Ext.over ?_ _ | refine Ext.drew ?_ | refine Ext.drewN ?_ _))⟩
      · obtain ⟨hd, h1, h7, h12⟩ := houseOk_bounds hk
        have HK := hid hk
        have hsb : setTo s s.length < 128 := setTo_lt (Nat.le_refl _) (fun j hj => by
          have := hasHall_iff.1 (HI.out j hj)
          omega)
        have HG := hid (gaL_set (l := l) (h := h.toNat) (o := s) (fun j hj => (hasHall_iff.1 (HI.out j hj)).2.1))
        have HB := hid (guardsOf_yes (show halls h l s = true by
          rw [halls_iff]
          exact ⟨hk, fun j hj => (hasHall_iff.1 (HI.out j hj)).2⟩))
        obtain ⟨h, rfl⟩ : ∃ k : Nat, h = k := ⟨h.toNat, by omega⟩
        rw [Int.toNat_natCast] at HG HB
        obtain ⟨S, hS⟩ : ∃ S, S = setTo s s.length := ⟨_, rfl⟩
        rw [← hS] at hsb HG ⊢
        have HS := hid hS
        have hS2 : S < 256 := by omega
        have HEb := hid (hec.trans he)
        clear he hs hl hO hEw hblk hd hk hS b0 b1
        rename World => wo
        go_wp2_with fail
        go_loopw [5, 8] (fun o i wr => ∃ (a : Nat) (A' : Option Addr) (m' c' : Nat), a ≤ h ∧ m' ≤ a ∧ i = .int .i64 ↑a ∧ o = .slice A' m' c' ∧ wr.ownsRow wb.heap.size 3 1 (.slice A' m' c') m' ((idxs (gaP S.testBit l h) a).map (Value.int .i64)) ∧ Ext wb wr) (fun _ i _ => (h - (intOf i).toNat))
        case atStart => exact ⟨0, _, _, _, by omega, by omega, rfl, rfl, HO.out, HEb.out⟩
        case round =>
          obtain ⟨a, A', m', c', ha, hma, rfl, rfl, hown, he⟩ := hrel
          have HEa := hid he
          have HOa := hid hown
          have b0 := old_cell he hb0
          have b1 := old_cell he hb1
          have HLa := hid ((hl0.out.ext hew).ext he)
          clear hown he HO HL HEw HE
          by_cases hlt : a < h
          · rename World => wi
            cases hba : S.testBit a
            · obtain ⟨e0, e1⟩ := bit_no hS2 hba
              have HI2 := hid (idxs_no (p := gaP S.testBit l h) (k := a) (ga_no hba))
              go_wp2_with (go_at_call 38; refine (gives_b HK.out (sHouseOk_any _ _ _ _ l _ (HLa.out.ext (by repeat (first | exact Ext.refl _ | refine Ext.alloc ?_ _ | assumption | refine Ext.over ?_ _ | refine Ext.drew ?_ | refine Ext.drewN ?_ _))) rfl hx)).over.mono ?_; rintro e w' ⟨rfl, xw, rfl⟩)
              rename World => xq
              go_loopw [9, 10] (fun o i wr => i = .int .i64 0 ∧ o = .bool false ∧ wr = ovr wi xq) (fun _ _ _ => 0)
              case atStart => exact ⟨rfl, rfl, rfl⟩
              case round =>
                obtain ⟨rfl, rfl, rfl⟩ := hrel
                go_wp2_with fail
                go_roundw
                case rel => exact ⟨a + 1, A', m', c', by omega, by omega, by go_num, rfl, by rw [HI2.out]; exact own_ext HOa.out (by repeat (first | exact Ext.refl _ | refine Ext.alloc ?_ _ | assumption | refine Ext.over ?_ _ | refine Ext.drew ?_ | refine Ext.drewN ?_ _)), HEa.out.trans (by repeat (first | exact Ext.refl _ | refine Ext.alloc ?_ _ | assumption | refine Ext.over ?_ _ | refine Ext.drew ?_ | refine Ext.drewN ?_ _))⟩
                case measure => simp [intOf]; omega
            · obtain ⟨e0, e1⟩ := bit_yes hS2 hba
              have HGa := hid (ga_at (l := l) (h := h) hba)
              go_wp2_with (go_at_call 38; refine (gives_b HK.out (sHouseOk_any _ _ _ _ l _ (HLa.out.ext (by repeat (first | exact Ext.refl _ | refine Ext.alloc ?_ _ | assumption | refine Ext.over ?_ _ | refine Ext.drew ?_ | refine Ext.drewN ?_ _))) rfl hx)).over.mono ?_; rintro e w' ⟨rfl, xw, rfl⟩)
              go_loopw [9, 10] (fun o i wr => ∃ (b : Nat), b ≤ h ∧ i = .int .i64 ↑b ∧ o = .bool (openB S.testBit l a b) ∧ Ext wi wr) (fun _ i _ => h - (intOf i).toNat)
              case atStart => exact ⟨0, by omega, rfl, rfl, by repeat (first | exact Ext.refl _ | refine Ext.alloc ?_ _ | assumption | refine Ext.over ?_ _ | refine Ext.drew ?_ | refine Ext.drewN ?_ _)⟩
              case round =>
                obtain ⟨b, hb, rfl, rfl, he2⟩ := hrel
                have p0 := old_cell he2 b0
                have p1 := old_cell he2 b1
                have HE2 := hid (HEa.out.trans he2)
                have HE3 := hid he2
                have HL2 := hid (HLa.out.ext he2)
                have HO2 := hid (own_ext HOa.out he2)
                clear he2 b0 b1
                by_cases hblt : b < h
                · cases hop : openB S.testBit l a b
                  · cases hbb : S.testBit b
                    · obtain ⟨f0, f1⟩ := bit_no (k := b) hS2 hbb
                      have HO := hid (openB_out hop hbb)
                      go_wp2_with (go_at_call 40; refine (l23Door_any _ _ _ _ l _ _ _ (HL2.out.ext (by repeat (first | exact Ext.refl _ | refine Ext.alloc ?_ _ | assumption | refine Ext.over ?_ _ | refine Ext.drew ?_ | refine Ext.drewN ?_ _))) rfl hx).over.mono ?_; rintro e w' ⟨rfl, xw, rfl⟩)
                      all_goals
                        go_roundw
                        case rel => exact ⟨b + 1, by omega, by go_num, by rw [HO.out], HE3.out.trans (by repeat (first | exact Ext.refl _ | refine Ext.alloc ?_ _ | assumption | refine Ext.over ?_ _ | refine Ext.drew ?_ | refine Ext.drewN ?_ _))⟩
                        case measure => simp [intOf]; omega
                    · obtain ⟨f0, f1⟩ := bit_yes (k := b) hS2 hbb
                      have HO := hid (openB_in hop hbb)
                      go_wp2_with fail
                      go_roundw
                      case rel => exact ⟨b + 1, by omega, by go_num, by rw [HO.out], HE3.out.trans (by repeat (first | exact Ext.refl _ | refine Ext.alloc ?_ _ | assumption | refine Ext.over ?_ _ | refine Ext.drew ?_ | refine Ext.drewN ?_ _))⟩
                      case measure => simp [intOf]; omega
                  · have HO := hid (openB_keep hop)
                    go_wp2_with fail
                    go_roundw
                    case rel => exact ⟨b + 1, by omega, by go_num, by rw [HO.out], HE3.out.trans (by repeat (first | exact Ext.refl _ | refine Ext.alloc ?_ _ | assumption | refine Ext.over ?_ _ | refine Ext.drew ?_ | refine Ext.drewN ?_ _))⟩
                    case measure => simp [intOf]; omega
                · obtain rfl : b = h := by omega
                  rename World => wj
                  cases hop : openB S.testBit l a b
                  · have HI2 := hid (idxs_no (p := gaP S.testBit l b) (k := a) (by rw [HGa.out, hop]))
                    go_wp2_with fail
                    go_roundw
                    case rel => exact ⟨a + 1, A', m', c', by omega, by omega, by go_num, rfl, by rw [HI2.out]; exact own_ext HO2.out (by repeat (first | exact Ext.refl _ | refine Ext.alloc ?_ _ | assumption | refine Ext.over ?_ _ | refine Ext.drew ?_ | refine Ext.drewN ?_ _)), HE2.out.trans (by repeat (first | exact Ext.refl _ | refine Ext.alloc ?_ _ | assumption | refine Ext.over ?_ _ | refine Ext.drew ?_ | refine Ext.drewN ?_ _))⟩
                    case measure => simp [intOf]; omega
                  · have HI2 := hid (idxs_yes (p := gaP S.testBit l b) (k := a) (by rw [HGa.out, hop]))
                    go_wp2_with (at_builtin; refine wpList_push (wb) rfl (.tmp 71) (.tmp 73) 25 rfl 3 Try.underlying25 info_int rfl (by decide) _ m' _ rfl (wj) HO2.out (by repeat (first | exact Ext.refl _ | refine Ext.alloc ?_ _ | assumption | refine Ext.over ?_ _ | refine Ext.drew ?_ | refine Ext.drewN ?_ _)) (by repeat (first | exact Ext.refl _ | refine Ext.alloc ?_ _ | assumption | refine Ext.over ?_ _ | refine Ext.drew ?_ | refine Ext.drewN ?_ _)) _ 1 1 [.int .i64 (a)] rfl rfl (lit_cells _ _ (by first | (simp; done) | simp [ovr_size]) _ _) (by intro u hu; simp at hu; subst hu; rfl) (by omega) (by decide) ?_)
                    intro A3 c3 w3 hown3 he3
                    have HO3 := hid hown3
                    clear hown3 HO2
                    go_wp2_with fail
                    go_roundw
                    case rel => exact ⟨a + 1, A3, m' + 1, c3, by omega, by omega, by go_num, rfl, by rw [HI2.out]; simpa using HO3.out, he3⟩
                    case measure => simp [intOf]; omega
          · obtain rfl : a = h := by omega
            go_wp2_with fail
            go_ret
            rw [HB.out, ← HG.out]
            exact ⟨_, _, _, rfl, own_base HOa.out (by have := hsz.out; omega), hew.trans HEa.out⟩
end Go.Proofs.Ytnkdafdafgjicaa
