/- Walks: QuietAlarms. Conditions: sizes. -/
import Derived.Test.YtmnpipbchcjgnaaAlarm
namespace Go.Proofs.Ytmnpipbchcjgnaa
open Go.RowKit
set_option linter.unusedVariables false

theorem raises_mom {z r : List T3} {j : Nat} (h : raisesAt z r j = true) : 0 ≤ (at3 r j).c ∧ (at3 r j).c ≤ 10000 := by
  unfold raisesAt raises at h
  simp only [Bool.and_eq_true, btw_iff] at h
  have hz := zok_iff.1 h.2.2.1
  have hw : wrap64 ((at3 z (at3 r j).a.toNat).b - 1) = (at3 z (at3 r j).a.toNat).b - 1 := IntWalk.wrap64_in _ (by omega)
  have := h.2.2.2.1
  rw [hw] at this
  omega
/-- What is known of an index of an alarm. -/
def AlIx (z r : List T3) (i : Int) : Prop := ∃ j : Nat, i = j ∧ j < r.length ∧ 0 ≤ (at3 r j).c ∧ (at3 r j).c ≤ 10000
theorem alarms_ix {z r : List T3} {i : Int} (h : i ∈ alarms z r) : AlIx z r i := by
  obtain ⟨j, rfl, h1, h2⟩ := idxs_mem.1 h
  exact ⟨j, rfl, h1, raises_mom h2⟩
def tired (r : List T3) (p : Int) (i k : Int) : Bool := (at3 r k.toNat).a == (at3 r i.toNat).a && btw ((at3 r i.toNat).c - (at3 r k.toNat).c) (-p) p
def qStep (r : List T3) (p : Int) (out : List Int) (i : Int) : List Int := if out.any (tired r p i) then out else out ++ [i]
def quietTo (z r : List T3) (p : Int) (k : Nat) : List Int := ((alarms z r).take k).foldl (qStep r p) []
theorem quietTo_succ {z r : List T3} {p : Int} {k : Nat} (h : k < (alarms z r).length) : quietTo z r p (k + 1) = qStep r p (quietTo z r p k) (atI (alarms z r) k) := by
  unfold quietTo
  rw [List.take_succ_eq_append_getElem h, List.foldl_append, atI_eq _ _ h]; rfl
theorem qStep_mem {r : List T3} {p : Int} {out : List Int} {i x : Int} (h : x ∈ qStep r p out i) : x ∈ out ∨ x = i := by
  unfold qStep at h
  split at h
  · exact .inl h
  · simpa using h
theorem quietTo_mem {z r : List T3} {p : Int} : ∀ {k : Nat}, k ≤ (alarms z r).length → ∀ x ∈ quietTo z r p k, x ∈ alarms z r
  | 0, _, x, h => by simp [quietTo] at h
  | k + 1, hk, x, h => by
    rw [quietTo_succ (by omega)] at h
    rcases qStep_mem h with h | h
    · exact quietTo_mem (by omega) x h
    · rw [h, atI_eq _ _ (by omega)]; exact List.getElem_mem _
theorem quietTo_len {z r : List T3} {p : Int} : ∀ {k : Nat}, k ≤ (alarms z r).length → (quietTo z r p k).length ≤ k
  | 0, _ => by simp [quietTo]
  | k + 1, hk => by
    rw [quietTo_succ (by omega)]
    have := quietTo_len (z := z) (r := r) (p := p) (k := k) (by omega)
    unfold qStep
    split
    · omega
    · simp; omega
def quiets (z r : List T3) (p : Int) : List Int := if p < 0 then [] else quietTo z r p (alarms z r).length
theorem quiets_len (z r : List T3) (p : Int) : (quiets z r p).length ≤ r.length := by
  have := alarms_len z r
  unfold quiets
  split
  · simp
  · have := quietTo_len (z := z) (r := r) (p := p) (k := (alarms z r).length) (Nat.le_refl _); omega
theorem list_any {l : List Int} {f : Int → Bool} {q : Bool} (h : decide (0 ≤ firstN l.length (fun j => f (atI l j))) = q) : l.any f = q := by
  rw [← h, Bool.eq_iff_iff, List.any_eq_true, decide_eq_true_eq]
  unfold firstN
  constructor
  · rintro ⟨x, hx, hf⟩
    obtain ⟨j, hj, rfl⟩ := List.getElem_of_mem hx
    split
    · omega
    · rename_i hn
      rw [List.find?_eq_none] at hn
      exact absurd (by rw [atI_eq _ _ hj]; exact hf) (hn j (by simpa using hj))
  · split
    · rename_i k hk
      intro _
      have h1 := List.mem_of_find?_eq_some hk
      have h2 := List.find?_some hk
      simp at h1
      exact ⟨atI l k, by rw [atI_eq _ _ h1]; exact List.getElem_mem _, h2⟩
    · intro h; omega

/-- The closure. -/
theorem clo_any (B : Option Addr) (m d : Nat) (r : List T3) (i k : Nat) (p : Int) (a1 a2 a3 : Nat) (w : World) (hr : Row w B (r.flatMap T3.v)) (hm : r.length = m) (hy : m ≤ 1048577)
    (h1 : w.cell? ⟨a1, 0, none⟩ = some (.slice B m d)) (h2 : w.cell? ⟨a2, 0, none⟩ = some (.int .i64 i)) (h3 : w.cell? ⟨a3, 0, none⟩ = some (.int .i64 p)) (hi : i < r.length) (hk : k < r.length)
    (bi : 0 ≤ (at3 r i).c ∧ (at3 r i).c ≤ 10000) (bk : 0 ≤ (at3 r k).c ∧ (at3 r k).c ≤ 10000) (hp : 0 ≤ p) (hp' : p ≤ 9223372036854775807) :
    Gives Try.prog 28 #[.int .i64 k, .pointer (some ⟨a1, 0, none⟩), .pointer (some ⟨a2, 0, none⟩), .pointer (some ⟨a3, 0, none⟩)] w (.bool (tired r p i k)) := by
  subst hm
  obtain ⟨b, off, rfl, hc⟩ := hr.t3 hi
  obtain ⟨c1, c2, c3⟩ := hc i hi
  obtain ⟨d1, d2, d3⟩ := hc k hk
  clear hc hr
  cases hq : ((at3 r k).a == (at3 r i).a)
  · have HT := hid (show tired r p i k = false by unfold tired; rw [Int.toNat_natCast, Int.toNat_natCast, hq]; rfl)
    (unfold Gives; go_enter Try.func28, Try.ntmps28)
    go_wp2_with fail
    (refine wp_region_calm (by kernel_rfl) (by kernel_rfl) ?_; (repeat (go_big_quiet_step (fail))); refine wpQuiet_nil ?_; rintro w1 ⟨x1, rfl⟩)
    go_wp2_with fail
    (refine wp_region_calm (by kernel_rfl) (by kernel_rfl) ?_; (repeat (go_big_quiet_step ((go_at_call 29; exact (between_any _ _ _ _).calm)))); refine wpQuiet_nil ?_; rintro w1 ⟨x1, rfl⟩)
    go_wp2_with fail
    go_ret
    refine ⟨by rw [HT.out]; rfl, ?_⟩
    repeat (first | exact Ext.refl _ | refine Ext.alloc ?_ _ | assumption | refine Ext.over ?_ _ | refine Ext.drew ?_ | refine Ext.drewN ?_ _)
  · have HT := hid (show tired r p i k = btw ((at3 r i).c - (at3 r k).c) (-p) p by unfold tired; rw [Int.toNat_natCast, Int.toNat_natCast, hq]; rfl)
    (unfold Gives; go_enter Try.func28, Try.ntmps28)
    go_wp2_with fail
    (refine wp_region_calm (by kernel_rfl) (by kernel_rfl) ?_; (repeat (go_big_quiet_step (fail))); refine wpQuiet_nil ?_; rintro w1 ⟨x1, rfl⟩)
    go_wp2_with fail
    (refine wp_region_calm (by kernel_rfl) (by kernel_rfl) ?_; (repeat (go_big_quiet_step ((go_at_call 29; exact (between_any _ _ _ _).calm)))); refine wpQuiet_nil ?_; rintro w1 ⟨x1, rfl⟩)
    go_wp2_with fail
    go_ret
    refine ⟨by rw [HT.out]; rfl, ?_⟩
    repeat (first | exact Ext.refl _ | refine Ext.alloc ?_ _ | assumption | refine Ext.over ?_ _ | refine Ext.drew ?_ | refine Ext.drewN ?_ _)

def cloV (a1 a2 a3 : Nat) : Value := .func (.func 28) #[] #[.pointer (some ⟨a1, 0, none⟩), .pointer (some ⟨a2, 0, none⟩), .pointer (some ⟨a3, 0, none⟩)]
/-- The closure's contract at every element of a list. -/
def CloAt (a1 a2 a3 : Nat) (w : World) (l : List Int) (f : Int → Bool) : Prop := ∀ k ∈ l, ∀ w', Ext w w' → Gives Try.prog 28 #[.int .i64 k, .pointer (some ⟨a1, 0, none⟩), .pointer (some ⟨a2, 0, none⟩), .pointer (some ⟨a3, 0, none⟩)] w' (.bool (f k))
theorem IndexFunc_any (A : Option Addr) (n c : Nat) (l : List Int) (a1 a2 a3 : Nat) (f : Int → Bool) (w : World) (hl : Row w A (l.map (Value.int .i64))) (hn : l.length = n) (hx : n ≤ 9223372036854775807) (hf : CloAt a1 a2 a3 w l f) :
    Gives Try.prog 35 #[.slice A n c, cloV a1 a2 a3] w (.int .i64 (firstN l.length (fun j => f (atI l j)))) := by
  subst hn
  unfold Gives cloV
  have HF := hid hf
  clear hf
  go_enter Try.func35, Try.ntmps35
  go_wp2_with fail
  go_loopw [8] (fun i wr => ∃ (k : Nat), (∀ j, j < k → f (atI l j) = false) ∧ k ≤ l.length ∧ i = .int .i64 ↑k ∧ Ext w wr) (fun i _ => (l.length - (intOf i).toNat))
  case atStart => exact ⟨0, by omega, by omega, rfl, Ext.refl _⟩
  case round =>
    obtain ⟨k, hk, hkn, rfl, he⟩ := hrel
    have HK := hid hk
    have HE := hid he
    obtain ⟨x, rfl⟩ := he.ex
    clear hk he
    by_cases hlt : k < l.length
    · obtain ⟨b, off, rfl, hc⟩ := hl.ints hlt
      have c1 := hc k hlt
      clear hc
      have HM := hid (show atI l k ∈ l by rw [atI_eq l k hlt]; exact List.getElem_mem hlt)
      have he := HE.out
      cases hv : f (atI l k)
      · go_wp2_with (go_at_call 28; refine (HF.out (atI l k) HM.out _ he).over.mono ?_; rintro e w' ⟨rfl, xw, rfl⟩)
        go_roundw
        case rel =>
          refine ⟨k + 1, lt_succ_all HK.out hv, by omega, by go_num, ?_⟩
          repeat (first | exact Ext.refl _ | refine Ext.alloc ?_ _ | assumption | refine Ext.over ?_ _ | refine Ext.drew ?_ | refine Ext.drewN ?_ _)
        case measure => simp [intOf]; omega
      · go_wp2_with (go_at_call 28; refine (HF.out (atI l k) HM.out _ he).over.mono ?_; rintro e w' ⟨rfl, xw, rfl⟩)
        go_ret
        refine ⟨by rw [firstN_hit HK.out hlt hv]; rfl, ?_⟩
        repeat (first | exact Ext.refl _ | refine Ext.alloc ?_ _ | assumption | refine Ext.over ?_ _ | refine Ext.drew ?_ | refine Ext.drewN ?_ _)
    · go_wp2_with fail
      go_ret
      exact ⟨by rw [firstN_none (fun j hj => HK.out j (by omega))]; rfl, HE.out⟩
theorem ContainsFunc_any (A : Option Addr) (n c : Nat) (l : List Int) (a1 a2 a3 : Nat) (f : Int → Bool) (w : World) (hl : Row w A (l.map (Value.int .i64))) (hn : l.length = n) (hx : n ≤ 9223372036854775807) (hf : CloAt a1 a2 a3 w l f) :
    Gives Try.prog 27 #[.slice A n c, cloV a1 a2 a3] w (.bool (l.any f)) := by
  have HF := hid hf
  clear hf
  unfold Gives
  subst hn
  have HQ := hid (list_any (l := l) (f := f) rfl)
  go_enter Try.func27, Try.ntmps27
  go_wp2_with (go_at_call 35; refine (IndexFunc_any _ _ _ l a1 a2 a3 f _ hl rfl hx HF.out).over.mono ?_; rintro e w' ⟨rfl, xw, rfl⟩)
  go_ret
  refine ⟨by rw [HQ.out]; rfl, ?_⟩
  repeat (first | exact Ext.refl _ | refine Ext.alloc ?_ _ | assumption | refine Ext.over ?_ _ | refine Ext.drew ?_ | refine Ext.drewN ?_ _)
theorem clo_at {z r : List T3} {i p : Int} (hi : AlIx z r i) {l : List Int} (hl : ∀ k ∈ l, AlIx z r k) (B : Option Addr) (m d a1 a2 a3 : Nat) (w : World) (hr : Row w B (r.flatMap T3.v)) (hm : r.length = m) (hy : m ≤ 1048577)
    (h1 : w.cell? ⟨a1, 0, none⟩ = some (.slice B m d)) (h2 : w.cell? ⟨a2, 0, none⟩ = some (.int .i64 i)) (h3 : w.cell? ⟨a3, 0, none⟩ = some (.int .i64 p)) (hp : 0 ≤ p) (hp' : p ≤ 9223372036854775807) : CloAt a1 a2 a3 w l (tired r p i) := by
  intro k hk w' he
  obtain ⟨i, rfl, i1, i2⟩ := hi
  obtain ⟨k, rfl, k1, k2⟩ := hl k hk
  have cell : ∀ {a : Nat} {v : Value}, w.cell? ⟨a, 0, none⟩ = some v → w'.cell? ⟨a, 0, none⟩ = some v := fun h => (Below.cell he (World.block_lt_of_cell? w _ h)).trans h
  exact clo_any B m d r i k p a1 a2 a3 w' (hr.ext he) hm hy (cell h1) (cell h2) (cell h3) i1 k1 i2 k2 hp hp'
theorem qStep_no {r : List T3} {p i : Int} {out : List Int} (h : out.any (tired r p i) = true) : qStep r p out i = out := by unfold qStep; rw [if_pos h]
theorem qStep_yes {r : List T3} {p i : Int} {out : List Int} (h : out.any (tired r p i) = false) : qStep r p out i = out ++ [i] := by unfold qStep; rw [h]; rfl
theorem iQuiet_any (A : Option Addr) (n c : Nat) (z : List T3) (B : Option Addr) (m d : Nat) (r : List T3) (p : Int) (w : World) (hz : Row w A (z.flatMap T3.v)) (hn : z.length = n) (hx : n ≤ 1048577) (hr : Row w B (r.flatMap T3.v)) (hm : r.length = m) (hy : m ≤ 1048577) (hp' : i64r p) :
    Calls Try.prog 16 #[.slice A n c, .slice B m d, .int .i64 p] w fun en w' => ∃ A' m' c', en = .returned (.slice A' m' c') ∧ w'.ownsRow w.heap.size 3 1 (.slice A' m' c') m' ((quiets z r p).map (Value.int .i64)) ∧ Ext w w' := by
  subst hn hm
  by_cases hp : p < 0
  · have HQ := hid (show quiets z r p = [] from if_pos hp)
    go_enter Try.func16, Try.ntmps16
    go_wp2_with fail
    go_ret
    rw [HQ.out]
    refine ⟨none, 0, 0, rfl, World.ownsRow_nil _ _ _ _, ?_⟩
    repeat (first | exact Ext.refl _ | refine Ext.alloc ?_ _ | assumption | refine Ext.over ?_ _ | refine Ext.drew ?_ | refine Ext.drewN ?_ _)
  · have HQ := hid (show quiets z r p = quietTo z r p (alarms z r).length from if_neg hp)
    have hal := alarms_len z r
    obtain ⟨p1, p2⟩ := hp'
    go_enter Try.func16, Try.ntmps16
    go_wp2_with fail
    refine (iAlarms_any A _ c z B _ d r _ (hz.ext (by repeat (first | exact Ext.refl _ | refine Ext.alloc ?_ _ | assumption | refine Ext.over ?_ _ | refine Ext.drew ?_ | refine Ext.drewN ?_ _))) rfl hx (hr.ext (by repeat (first | exact Ext.refl _ | refine Ext.alloc ?_ _ | assumption | refine Ext.over ?_ _ | refine Ext.drew ?_ | refine Ext.drewN ?_ _))) rfl hy).mono ?_
    rintro _ w1 ⟨A1, m1, c1, rfl, o1, e1⟩
    have hm1 := own_len o1
    subst hm1
    have hb1 : w1.cell? ⟨w.heap.size, 0, none⟩ = some (.slice B r.length d) := (Below.cell e1 (by simp; try omega)).trans (by go_simp)
    have hb2 : w1.cell? ⟨w.heap.size + 1, 0, none⟩ = some (.int .i64 p) := (Below.cell e1 (by simp; try omega)).trans (by go_simp)
    have hsz : w.heap.size + 3 ≤ w1.heap.size := by have := e1.size; simpa using this
    have E1 : Ext w w1 := Ext.trans (by repeat (first | exact Ext.refl _ | refine Ext.alloc ?_ _ | assumption | refine Ext.over ?_ _ | refine Ext.drew ?_ | refine Ext.drewN ?_ _)) e1
    have HO1 := hid (own_ext (own_empty _ (w.heap.size + 2) w.heap.size (by simp) (by simp; omega) 3 1) e1)
    have HA := hid (own_base o1 (show w.heap.size + 3 ≤ _ by simp))
    clear o1 e1
    go_wp2_with fail
    go_loopw [7, 18] (fun o i wr => ∃ (k : Nat) (A' : Option Addr) (m' c' : Nat), k ≤ (alarms z r).length ∧ m' ≤ k ∧ i = .int .i64 ↑k ∧ o = .slice A' m' c' ∧ wr.ownsRow w.heap.size 3 1 (.slice A' m' c') m' ((quietTo z r p k).map (Value.int .i64)) ∧ OutAt w1 wr (w.heap.size + 2) A') (fun _ i _ => ((alarms z r).length - (intOf i).toNat))
    case atStart =>
      exact ⟨0, _, _, _, by omega, by omega, rfl, rfl, HO1.out, OutAt.refl _ _⟩
    case round =>
      obtain ⟨k, A', m', c', hk, hm, rfl, rfl, hown, hout⟩ := hrel
      have b1 := (hout.cell (p := ⟨w.heap.size, 0, none⟩) (by simp; omega) (by simp)).trans hb1
      have b2 := (hout.cell (p := ⟨w.heap.size + 1, 0, none⟩) (by simp; omega) (by simp)).trans hb2
      have hra := Row.of_own (hout.kept HA.out (by omega))
      have hext := hout.out E1 (by omega)
      have hsz' := hout.size
      have HO := hid hown
      have HT := hid hout
      have HX := hid hext
      clear hown hout hext
      by_cases hlt : k < (alarms z r).length
      · obtain ⟨ab, ao, rfl, hc⟩ := hra.ints hlt
        have a1 := hc k hlt
        have HI := hid (show AlIx z r (atI (alarms z r) k) from alarms_ix (by rw [atI_eq _ _ hlt]; exact List.getElem_mem hlt))
        have HL := hid (show ∀ x ∈ quietTo z r p k, AlIx z r x from fun x hx => alarms_ix (quietTo_mem (by omega) x hx))
        have HQS := hid (quietTo_succ (p := p) hlt)
        clear hc hra
        cases hq : (quietTo z r p k).any (tired r p (atI (alarms z r) k))
        · have HN := hid (qStep_yes hq)
          go_wp2_with (first | (go_at_call 27; refine (ContainsFunc_any _ _ _ (quietTo z r p k) w.heap.size _ (w.heap.size + 1) (tired r p (atI (alarms z r) k)) _ ((Row.of_own HO.out).ext (by repeat (first | exact Ext.refl _ | refine Ext.alloc ?_ _ | assumption | refine Ext.over ?_ _ | refine Ext.drew ?_ | refine Ext.drewN ?_ _))) (own_len HO.out) (by omega) (clo_at HI.out HL.out B r.length d _ _ _ _ (hr.ext (Ext.trans HX.out (by repeat (first | exact Ext.refl _ | refine Ext.alloc ?_ _ | assumption | refine Ext.over ?_ _ | refine Ext.drew ?_ | refine Ext.drewN ?_ _)))) rfl hy (by go_simp) (by go_simp) (by go_simp) hp p2)).over.mono ?_; rintro e w' ⟨rfl, xw, rfl⟩) | (at_builtin; refine wpList_pushO (w1) (w.heap.size + 2) rfl (.tmp 27) (.tmp 29) 38 rfl 3 Try.underlying38 info_int rfl (by decide) (w.heap.size) _ m' _ _ rfl (wr) HO.out HT.out (by repeat (first | exact Ext.refl _ | refine Ext.alloc ?_ _ | assumption | refine Ext.over ?_ _ | refine Ext.drew ?_ | refine Ext.drewN ?_ _)) ?_ _ 1 1 [.int .i64 (atI (alarms z r) k)] rfl rfl (lit_cells _ _ (by first | (simp; done) | simp [ovr_size]) _ _) (by intro u hu; simp at hu; subst hu; rfl) (by decide) (by omega) (by decide) ?_))
          · omega
          intro A2 c2 w2 hown2 hout2
          have HO2 := hid hown2
          have HT2 := hid hout2
          clear hown2 hout2 HO HT
          go_wp2_with fail
          go_roundw
          case rel =>
            refine ⟨k + 1, A2, m' + 1, c2, by omega, by omega, by go_num, rfl, ?_, HT2.out⟩
            rw [HQS.out, HN.out]
            simpa using HO2.out
          case measure => simp [intOf]; omega
        · have HN := hid (qStep_no hq)
          go_wp2_with (go_at_call 27; refine (ContainsFunc_any _ _ _ (quietTo z r p k) w.heap.size _ (w.heap.size + 1) (tired r p (atI (alarms z r) k)) _ ((Row.of_own HO.out).ext (by repeat (first | exact Ext.refl _ | refine Ext.alloc ?_ _ | assumption | refine Ext.over ?_ _ | refine Ext.drew ?_ | refine Ext.drewN ?_ _))) (own_len HO.out) (by omega) (clo_at HI.out HL.out B r.length d _ _ _ _ (hr.ext (Ext.trans HX.out (by repeat (first | exact Ext.refl _ | refine Ext.alloc ?_ _ | assumption | refine Ext.over ?_ _ | refine Ext.drew ?_ | refine Ext.drewN ?_ _)))) rfl hy (by go_simp) (by go_simp) (by go_simp) hp p2)).over.mono ?_; rintro e w' ⟨rfl, xw, rfl⟩)
          go_roundw
          case rel =>
            refine ⟨k + 1, A', m', c', by omega, by omega, by go_num, rfl, ?_, HT.out.ext (by repeat (first | exact Ext.refl _ | refine Ext.alloc ?_ _ | assumption | refine Ext.over ?_ _ | refine Ext.drew ?_ | refine Ext.drewN ?_ _))⟩
            rw [HQS.out, HN.out]
            exact own_ext HO.out (by repeat (first | exact Ext.refl _ | refine Ext.alloc ?_ _ | assumption | refine Ext.over ?_ _ | refine Ext.drew ?_ | refine Ext.drewN ?_ _))
          case measure => simp [intOf]; omega
      · go_wp2_with fail
        go_ret
        obtain rfl : k = (alarms z r).length := by omega
        rw [HQ.out]
        exact ⟨_, _, _, rfl, HO.out, HX.out⟩
end Go.Proofs.Ytmnpipbchcjgnaa
