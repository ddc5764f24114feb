/- Walks: FewestTracks. Conditions: sizes. -/
import Derived.Test.YtnjmhdlcmbpfpaaExtend
import Derived.Test.YtnjmhdlcmbpfpaaLate
namespace Go.Proofs.Ytnjmhdlcmbpfpaa
open Go.RowKit

theorem info_bool : (Try.prog.info? 4).map (fun i => (i.zero, i.size, i.bytes)) = some (some (.bool false), 1, 1) := by kernel_rfl
def fewest (l : List T3) (s : Int) : Int := if sights l s then Match.tracks (cb l s) l.length else -1
theorem fewest_no {l : List T3} {s : Int} (h : sights l s = false) : fewest l s = -1 := by rw [fewest, h]; rfl
theorem fewest_yes {l : List T3} {s : Int} (h : sights l s = true) : fewest l s = (Match.run (cb l s) l.length (List.range' 0 (l.length - 0)) (List.replicate l.length (-1), (l.length : Int))).2 := by
  rw [fewest, h, Match.tracks, List.range_eq_range']; rfl
section
variable {c : Nat → Nat → Bool} {n i : Nat} {is : List Nat} {b : List Int} {q : Int}
theorem run_yes (h : (Match.ext c n (n + 1) i (b, List.replicate n false)).1 = true) : Match.run c n (i :: is) (b, q) = Match.run c n is ((Match.ext c n (n + 1) i (b, List.replicate n false)).2.1, q - 1) := by
  rw [Match.run, h]; rfl
theorem run_no (h : (Match.ext c n (n + 1) i (b, List.replicate n false)).1 = false) : Match.run c n (i :: is) (b, q) = Match.run c n is ((Match.ext c n (n + 1) i (b, List.replicate n false)).2.1, q) := by
  rw [Match.run, h]; rfl
end
theorem all_m1 {bs : List Int} {n : Nat} (h1 : bs.length = n) (h2 : ∀ j, j < n → bs.getD j 0 = -1) : bs = List.replicate n (-1) := by
  apply List.ext_getElem (by simp [h1])
  intro j hj _
  have := h2 j (by omega)
  simp [List.getD, hj] at this
  simp [this]
theorem own_two {wa w w1 : World} {g n cap : Nat} {b : List Int} (h : w.ownsRow wa.heap.size 3 1 (.slice (some ⟨g, 0, none⟩) n cap) n (b.map (Value.int .i64))) (he : Ext wa w)
    (hT : w1.ownsRow wa.heap.size 4 1 (.slice (some ⟨w.heap.size, 0, none⟩) n n) n (madeCells #[Value.bool false] n).toList) (hg : w.grownBy w1 none) : Two wa w1 g w.heap.size n cap n b (List.replicate n false) := by
  have he1 : Ext w w1 := (Below.refl _ _).grown hg (Nat.le_refl _) (by simp)
  have hlt := (h.lt g rfl).2
  refine ⟨own_ext h he1, ?_, by omega, he.trans he1⟩
  rw [List.map_replicate]
  have e : (madeCells #[Value.bool false] n).toList = List.replicate n (.bool false) := toList_madeCells_one _ _
  rwa [e] at hT
set_option maxHeartbeats 1600000 in
theorem iFewest_any (A : Option Addr) (n c : Nat) (l : List T3) (s : Int) (w : World) (hl : Row w A (l.flatMap T3.v)) (hn : l.length = n) (hx : n ≤ 9223372036854775807) :
    Gives Try.prog 12 #[.slice A n c, .int .i64 s] w (.int .i64 (fewest l s)) := by
  subst hn
  cases hs : sights l s
  · have HM := hid (fewest_no hs)
    (unfold Gives; go_enter Try.func12, Try.ntmps12)
    go_wp2_with (go_at_call 25; refine (sightingsOk_any _ _ _ l _ _ (hl.ext (by repeat (first | exact Ext.refl _ | refine Ext.alloc ?_ _ | assumption | refine Ext.over ?_ _ | refine Ext.drew ?_ | refine Ext.drewN ?_ _))) rfl (by omega)).over.mono ?_; rintro e w' ⟨rfl, xw, rfl⟩)
    go_ret
    refine ⟨by rw [HM.out]; rfl, ?_⟩
    repeat (first | exact Ext.refl _ | refine Ext.alloc ?_ _ | assumption | refine Ext.over ?_ _ | refine Ext.drew ?_ | refine Ext.drewN ?_ _)
  · have h8 : l.length ≤ 8 := by
      unfold sights at hs
      simp only [Bool.and_eq_true, decide_eq_true_eq] at hs
      exact hs.2.1
    have HM := hid (fewest_yes hs)
    generalize fewest l s = R at *
    obtain ⟨i0, hi, hz0, hz1, hz2⟩ := info_parts info_int
    obtain ⟨j0, hj, hy0, hy1, hy2⟩ := info_parts info_bool
    have HI := hid (And.intro hi (And.intro hz0 (And.intro hz1 hz2)))
    have HJ := hid (And.intro hj (And.intro hy0 (And.intro hy1 hy2)))
    clear hi hz0 hz1 hz2 hj hy0 hy1 hy2
    (unfold Gives; go_enter Try.func12, Try.ntmps12)
    go_wp2_with (first | (go_at_call 25; refine (sightingsOk_any _ _ _ l _ _ (hl.ext (by repeat (first | exact Ext.refl _ | refine Ext.alloc ?_ _ | assumption | refine Ext.over ?_ _ | refine Ext.drew ?_ | refine Ext.drewN ?_ _))) rfl (by omega)).over.mono ?_; rintro e w' ⟨rfl, xw, rfl⟩) | (at_make; refine wpList_make_full _ rfl (.tmp 14) (.tmp 14) 26 rfl w.heap.size 3 i0 _ 1 Try.underlying26 HI.out.1 HI.out.2.1 HI.out.2.2.1 _ _ _ _ l.length rfl rfl rfl rfl (by rw [HI.out.2.2.2]; omega) (by unfold maxLen; omega) (by simp [ovr_size]) ?_))
    intro w1 hown hg
    have he1 : Ext w w1 := Ext.trans (by repeat (first | exact Ext.refl _ | refine Ext.alloc ?_ _ | assumption | refine Ext.over ?_ _ | refine Ext.drew ?_ | refine Ext.drewN ?_ _)) ((Below.refl _ _).grown hg (Nat.le_refl _) (by simp))
    rw [show (madeCells #[Value.int .i64 0] l.length).toList = (List.replicate l.length (0 : Int)).map (Value.int .i64) from by rw [List.map_replicate]; exact toList_madeCells_one _ _] at hown
    have HO := hid hown
    have HE := hid he1
    clear hown he1 hg
    generalize w.heap.size + ovrN w xw = g at *
    go_wp2_with fail
    go_loopw [18] (fun ix wr => ∃ (k : Nat) (bs : List Int), k ≤ l.length ∧ ix = .int .i64 ↑k ∧ wr.ownsRow w.heap.size 3 1 (.slice (some ⟨g, 0, none⟩) l.length l.length) l.length (bs.map (Value.int .i64)) ∧ (∀ j, j < k → bs.getD j 0 = -1) ∧ Ext w wr) (fun ix _ => l.length - (intOf ix).toNat)
    case atStart => exact ⟨0, _, by omega, rfl, HO.out, by omega, HE.out⟩
    case round =>
      obtain ⟨k, bs, hk, rfl, hown, hbs, he⟩ := hrel
      clear HO HE
      have HO := hid hown
      have HB := hid hbs
      have HE := hid he
      by_cases hlt : k < l.length
      · obtain ⟨t1, t2⟩ := own_int hown hlt
        clear hown hbs he hl
        go_wp2_with fail
        go_roundw
        case rel =>
          obtain ⟨h1, h2⟩ := HO.out.stored k (.int .i64 (-1))
          refine ⟨k + 1, bs.set k (-1), by omega, by go_num, by rw [List.map_set]; exact h1, fun j hj => ?_, grown_ext (v := .slice (some ⟨g, 0, none⟩) l.length l.length) HE.out HO.out (Nat.le_refl _) h2⟩
          have hlen : bs.length = l.length := by simpa using HO.out.1
          by_cases e : k = j
          · subst e; exact Match.getD_set_self _ _ _ _ (by omega)
          · rw [Match.getD_set_ne _ _ _ _ _ e]; exact HB.out j (by omega)
        case measure => simp [intOf]; omega
      · obtain rfl : k = l.length := by omega
        obtain rfl : bs = List.replicate l.length (-1) := all_m1 (by simpa using HO.out.1) HB.out
        clear hown hbs he HB
        go_wp2_with fail
        go_loopw [7, 29] (fun q ix wr => ∃ (k : Nat) (b : List Int) (z : Int), k ≤ l.length ∧ ix = .int .i64 ↑k ∧ q = .int .i64 z ∧ (l.length : Int) - k ≤ z ∧ z ≤ l.length ∧ wr.ownsRow w.heap.size 3 1 (.slice (some ⟨g, 0, none⟩) l.length l.length) l.length (b.map (Value.int .i64)) ∧ (∀ k, k < l.length → b.getD k 0 < l.length) ∧ R = (Match.run (cb l s) l.length (List.range' k (l.length - k)) (b, z)).2 ∧ Ext w wr) (fun _ ix _ => l.length - (intOf ix).toNat)
        case atStart => exact ⟨0, _, _, by omega, rfl, rfl, by omega, by omega, HO.out, fun k hk => by simp [List.getD, hk]; omega, HM.out, HE.out⟩
        case round =>
          obtain ⟨k, b, z, hk, rfl, rfl, hz1, hz2, hown, hb, hR, he⟩ := hrel
          clear HO HE HM
          have HO := hid hown
          have HB := hid hb
          have HR := hid hR
          have HE := hid he
          have HL := hid hl
          clear hown hb hR he hl
          by_cases hlt : k < l.length
          · rw [range'_cons hlt] at HR
            go_wp2_with (at_make; refine wpList_make_full _ rfl (.tmp 37) (.tmp 37) 52 rfl w.heap.size 4 j0 _ 1 Try.underlying52 HJ.out.1 HJ.out.2.1 HJ.out.2.2.1 _ _ _ _ l.length rfl rfl rfl rfl (by rw [HJ.out.2.2.2]; omega) (by unfold maxLen; omega) HE.out.size ?_)
            intro w2 hown2 hg2
            have HT := hid (own_two HO.out HE.out hown2 hg2)
            clear hown2 hg2
            have C := iExtend_any w A l.length c l s HL.out rfl h8 g wr.heap.size l.length l.length (l.length + 1) k b (List.replicate l.length false) w2 hlt HT.out HB.out (by rw [Match.left_replicate]; omega)
            have HD := hid (Match.ext_done (c := cb l s) (l.length + 1) k (b, List.replicate l.length false) hlt ⟨HT.out.lenB, HT.out.lenT, HB.out⟩ (by rw [Match.left_replicate]; omega)).1
            cases hr : (Match.ext (cb l s) l.length (l.length + 1) k (b, List.replicate l.length false)).1
            · have HR2 := hid (HR.out.trans (by rw [run_no hr]))
              rw [hr] at C
              have HC := hid C
              clear HR hr C
              go_wp2_with (go_at_call 26; refine HC.out.mono ?_; rintro e w3 ⟨rfl, HT3⟩; have HT4 := hid HT3; clear HT3)
              go_roundw
              case rel => exact ⟨k + 1, _, z, by omega, by go_num, rfl, by omega, hz2, HT4.out.ints, HD.out.ok.2.2, HR2.out, HT4.out.ext⟩
              case measure => simp [intOf]; omega
            · have HR2 := hid (HR.out.trans (by rw [run_yes hr]))
              rw [hr] at C
              have HC := hid C
              clear HR hr C
              go_wp2_with (go_at_call 26; refine HC.out.mono ?_; rintro e w3 ⟨rfl, HT3⟩; have HT4 := hid HT3; clear HT3)
              go_roundw
              case rel => exact ⟨k + 1, _, z - 1, by omega, by go_num, by go_num, by omega, by omega, HT4.out.ints, HD.out.ok.2.2, HR2.out, HT4.out.ext⟩
              case measure => simp [intOf]; omega
          · go_wp2_with fail
            go_ret
            obtain rfl : k = l.length := by omega
            refine ⟨?_, HE.out⟩
            rw [HR.out, Nat.sub_self]
            rfl
end Go.Proofs.Ytnjmhdlcmbpfpaa
