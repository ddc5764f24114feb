/- Walks: GuardsAfter, GuardsFor of the program. Conditions: sizes. -/
import Derived.Test.YtngniniiohgilaaAfterI
import Derived.Test.YtngniniiohgilaaHallsI
import Derived.Test.YtngniniiohgilaaOrderI
import Derived.Test.YtngniniiohgilaaHer
namespace Go.Proofs.Ytngniniiohgilaa
open Go.RowKit
set_option linter.unusedVariables false

def guardsOf (h : Int) (l : List T2) (s : List Int) : List Int := if halls h l s = true then gaL (memN s) l h.toNat else []
theorem guardsOf_no {h : Int} {l : List T2} {s : List Int} (g : halls h l s = false) : guardsOf h l s = [] := by unfold guardsOf; rw [g]; simp
theorem guardsOf_yes {h : Int} {l : List T2} {s : List Int} (g : halls h l s = true) : guardsOf h l s = gaL (memN s) l h.toNat := by unfold guardsOf; rw [if_pos g]
theorem guardsOf_len (h : Int) (l : List T2) (s : List Int) : (guardsOf h l s).length ≤ 7 := by
  unfold guardsOf
  split
  · rename_i g
    obtain ⟨_, _, h7, _⟩ := houseOk_bounds (halls_iff.1 g).1
    have := gaL_len (memN s) l h.toNat
    omega
  · simp
set_option maxRecDepth 100000 in
set_option maxHeartbeats 1600000 in
theorem iAfter_any (h : Int) (A : Option Addr) (n c : Nat) (l : List T2) (B : Option Addr) (m d : Nat) (s : List Int) (w : World) (hl : Row w A (l.flatMap T2.v)) (hn : l.length = n) (hx : n ≤ 1048577) (hs : Row w B (s.map (Value.int .i64))) (hm : s.length = m) (hy : m ≤ 1048577) :
    Calls Try.prog 20 #[.agg #[.int .i64 h, .slice A n c], .slice B m d] w fun en w' => ∃ A' m' c', en = .returned (.slice A' m' c') ∧ w'.ownsRow w.heap.size 3 1 (.slice A' m' c') m' ((guardsOf h l s).map (Value.int .i64)) ∧ Ext w w' := by
  subst hn hm
  cases hk : houseOk h l
  · have HB := hid (guardsOf_no (halls_no (g := s) hk))
    go_enter Try.func20, Try.ntmps20
    go_wp2_with (go_at_call 15; refine (gives_b hk (iHouseOk_any _ _ _ _ l _ (hl.ext (by repeat (first | exact Ext.refl _ | refine Ext.alloc ?_ _ | assumption | refine Ext.over ?_ _ | refine Ext.drew ?_ | refine Ext.drewN ?_ _))) rfl hx)).over.mono ?_; rintro e w' ⟨rfl, xw, rfl⟩)
    go_ret
    rw [HB.out]
    exact ⟨_, _, _, rfl, World.ownsRow_nil _ _ _ _, by repeat (first | exact Ext.refl _ | refine Ext.alloc ?_ _ | assumption | refine Ext.over ?_ _ | refine Ext.drew ?_ | refine Ext.drewN ?_ _)⟩
  obtain ⟨hd, h1, h7, h12⟩ := houseOk_bounds hk
  have HD := hid hd
  have HK := hid hk
  clear hd
  go_enter Try.func20, Try.ntmps20
  go_wp2_with (go_at_call 15; refine (gives_b HK.out (iHouseOk_any _ _ _ _ l _ (hl.ext (by repeat (first | exact Ext.refl _ | refine Ext.alloc ?_ _ | assumption | refine Ext.over ?_ _ | refine Ext.drew ?_ | refine Ext.drewN ?_ _))) rfl hx)).over.mono ?_; rintro e w' ⟨rfl, xw, rfl⟩)
  go_loopw [12] (fun i wr => ∃ (k : Nat), (∀ j, j < k → inH h s j = true) ∧ k ≤ s.length ∧ i = .int .i64 ↑k ∧ Ext w wr ∧ wr.cell? ⟨w.heap.size, 0, none⟩ = some (.int .i64 h) ∧ wr.cell? ⟨w.heap.size, 1, none⟩ = some (.slice A l.length c)) (fun i _ => (s.length - (intOf i).toNat))
  case atStart => exact ⟨0, by omega, by omega, rfl, by repeat (first | exact Ext.refl _ | refine Ext.alloc ?_ _ | assumption | refine Ext.over ?_ _ | refine Ext.drew ?_ | refine Ext.drewN ?_ _), by go_simp, by go_simp⟩
  case round =>
    obtain ⟨k, hk', hkn, rfl, he, b0, b1⟩ := hrel
    have HJ := hid hk'
    have HE := hid he
    have HL := hid (hl.ext he)
    have hO := hs.ext he
    have HS := hid hO
    clear hk' hk
    by_cases hlt : k < s.length
    · obtain ⟨ob, off, rfl, hc⟩ := hO.ints hlt
      have c1 := hc k hlt
      clear hc he hs hl hO HS
      cases g1 : btw (atI s k) 0 (h - 1)
      · have HB := hid (guardsOf_no (halls_out (l := l) hlt g1))
        go_wp2_with (go_at_call 42; refine (gives_b g1 (isHall_any _ _ _ _ _ _ h1 h7)).over.mono ?_; rintro e w' ⟨rfl, xw, rfl⟩)
        go_ret
        rw [HB.out]
        exact ⟨_, _, _, rfl, World.ownsRow_nil _ _ _ _, HE.out.trans (by repeat (first | exact Ext.refl _ | refine Ext.alloc ?_ _ | assumption | refine Ext.over ?_ _ | refine Ext.drew ?_ | refine Ext.drewN ?_ _))⟩
      · have HB := hid g1
        go_wp2_with (go_at_call 42; refine (gives_b g1 (isHall_any _ _ _ _ _ _ h1 h7)).over.mono ?_; rintro e w' ⟨rfl, xw, rfl⟩)
        go_roundw
        case rel => exact ⟨k + 1, lt_succ_all HJ.out HB.out, by omega, by go_num, HE.out.trans (by repeat (first | exact Ext.refl _ | refine Ext.alloc ?_ _ | assumption | refine Ext.over ?_ _ | refine Ext.drew ?_ | refine Ext.drewN ?_ _)), by go_simp, by go_simp⟩
        case measure => simp [intOf]; omega
    · have HB := hid (guardsOf_yes (show halls h l s = true by unfold halls; rw [HK.out, allN_true (fun j hj => HJ.out j (by omega))]; rfl))
      obtain ⟨h, rfl⟩ : ∃ k : Nat, h = k := ⟨h.toNat, by omega⟩
      clear he hs hl hO
      go_wp2_with fail
      refine (iga_any h A l.length c l B s.length d s _ (HL.out.ext (by repeat (first | exact Ext.refl _ | refine Ext.alloc ?_ _ | assumption | refine Ext.over ?_ _ | refine Ext.drew ?_ | refine Ext.drewN ?_ _))) rfl h12 (by omega) HD.out (HS.out.ext (by repeat (first | exact Ext.refl _ | refine Ext.alloc ?_ _ | assumption | refine Ext.over ?_ _ | refine Ext.drew ?_ | refine Ext.drewN ?_ _))) rfl hy).mono ?_
      rintro _ w2 ⟨A', m', c', rfl, ho, he2⟩
      have HO := hid (own_base (base' := w.heap.size) ho (HE.out.trans (by repeat (first | exact Ext.refl _ | refine Ext.alloc ?_ _ | assumption | refine Ext.over ?_ _ | refine Ext.drew ?_ | refine Ext.drewN ?_ _))).size)
      have HE2 := hid (HE.out.trans he2)
      clear ho he2
      go_wp2_with fail
      go_ret
      rw [HB.out, Int.toNat_natCast]
      exact ⟨_, _, _, rfl, HO.out, HE2.out⟩

/-! ### The guards of an order -/
def fTo (l : List T2) (h : Nat) (o : List Int) (k : Nat) : Int := (gaL (memN (o.take k)) l h).length + 1
def forTo (l : List T2) (h : Nat) (o : List Int) : Nat → Int
  | 0 => 0
  | k + 1 => max (forTo l h o k) (fTo l h o k)
theorem forTo_bound (l : List T2) (h : Nat) (o : List Int) (k : Nat) : 0 ≤ forTo l h o k ∧ forTo l h o k ≤ h + 1 := by
  induction k with
  | zero => exact ⟨by show (0 : Int) ≤ 0; omega, by show (0 : Int) ≤ _; omega⟩
  | succ k ih =>
    have := gaL_len (memN (o.take k)) l h
    unfold forTo fTo
    omega
def forOf (h : Int) (l : List T2) (o : List Int) : Int := if orderOk h l o = true then forTo l h.toNat o o.length else -1
set_option maxRecDepth 100000 in
set_option maxHeartbeats 1600000 in
theorem igf_any (h : Nat) (A : Option Addr) (n c : Nat) (l : List T2) (B : Option Addr) (m d : Nat) (s : List Int) (w : World) (hl : Row w A (l.flatMap T2.v)) (hn : l.length = n) (hx : n ≤ 12) (h7 : h ≤ 7) (hf : doorsOk h l = true) (hs : Row w B (s.map (Value.int .i64))) (hm : s.length = m) (hy : m ≤ 1048577) (hcap : m ≤ d) :
    Gives Try.prog 57 #[.agg #[.int .i64 h, .slice A n c], .slice B m d] w (.int .i64 (forTo l h s s.length)) := by
  subst hn hm
  have HD := hid hf
  clear hf
  (unfold Gives; go_enter Try.func57, Try.ntmps57)
  go_wp2_with fail
  go_loopw [5, 9] (fun o i wr => ∃ (k : Nat), k ≤ s.length ∧ i = .int .i64 ↑k ∧ o = .int .i64 (forTo l h s k) ∧ Ext w wr ∧ wr.cell? ⟨w.heap.size, 0, none⟩ = some (.int .i64 h) ∧ wr.cell? ⟨w.heap.size, 1, none⟩ = some (.slice A l.length c)) (fun _ i _ => (s.length - (intOf i).toNat))
  case atStart => exact ⟨0, by omega, rfl, rfl, by repeat (first | exact Ext.refl _ | refine Ext.alloc ?_ _ | assumption | refine Ext.over ?_ _ | refine Ext.drew ?_ | refine Ext.drewN ?_ _), by go_simp, by go_simp⟩
  case round =>
    obtain ⟨k, hkn, rfl, rfl, he, b0, b1⟩ := hrel
    have HE := hid he
    have HL := hid (hl.ext he)
    have hO := hs.ext he
    have hfb := forTo_bound l h s k
    obtain ⟨q, hq⟩ : ∃ q, q = forTo l h s k := ⟨_, rfl⟩
    rw [← hq] at hfb ⊢
    have HQ := hid hq
    clear hq
    by_cases hlt : k < s.length
    · obtain ⟨ob, off, rfl, hc⟩ := hO.ints hlt
      have HS := hid (hO.take k)
      clear hc he hs hl hO
      go_wp2_with fail
      refine wp_region_her [true, true, true, true, true, false, false, false, false, false] (by kernel_rfl) (by kernel_rfl) ?_
      have hkd : k ≤ d := by omega
      (simp only [selB, notB, List.map_cons, List.map_nil, Bool.not_true, Bool.not_false]; (repeat (refine wpH_step (fun K hK => ?_); go_simp; refine hK _ ?_; clear hK K)); refine wpH_nil ?_)
      refine wpT_step (fun w2 hw2 K hK => ?_)
      have e2 := later_ext hw2; clear hw2
      go_simp
      refine (iga_any h A l.length c l _ k d (s.take k) w2 (HL.out.ext e2) rfl hx h7 HD.out (HS.out.ext e2) (by rw [List.length_take]; omega) (by omega)).mono ?_
      rintro _ w3 ⟨A', m', c', rfl, ho, he3⟩
      refine ⟨_, rfl, hK _ _ he3.ex ?_⟩; clear hK K
      have EX := hid (e2.trans he3)
      have hlen := own_len ho
      have hgl := gaL_len (memN (s.take k)) l h
      clear ho he3 e2
      have hw : IntKind.i64.wrap ((m' : Int) + 1) = (m' : Int) + 1 := IntWalk.i64_in _ ⟨by omega, by omega⟩
      (refine wpT_step (fun wx hwx K hK => ?_); replace EX := hid (EX.out.trans (later_ext hwx)); clear hwx; go_simp; refine hK _ _ (Ext.ex (Ext.refl _)) ?_; clear hK K)
      (refine wpT_step (fun wx hwx K hK => ?_); replace EX := hid (EX.out.trans (later_ext hwx)); clear hwx; go_simp; refine hK _ _ (Ext.ex (Ext.refl _)) ?_; clear hK K)
      (refine wpT_step (fun wx hwx K hK => ?_); replace EX := hid (EX.out.trans (later_ext hwx)); clear hwx; go_simp; refine hK _ _ (Ext.ex (Ext.refl _)) ?_; clear hK K)
      (refine wpT_step (fun wx hwx K hK => ?_); replace EX := hid (EX.out.trans (later_ext hwx)); clear hwx; go_simp; refine hK _ _ (Ext.ex (Ext.refl _)) ?_; clear hK K)
      (refine wpT_nil (fun wx hwx => ?_); replace EX := hid (EX.out.trans (later_ext hwx)); clear hwx)
      have HV := hid (show (if q < (m' : Int) + 1 then (m' : Int) + 1 else q) = forTo l h s (k + 1) by
        show _ = max (forTo l h s k) (fTo l h s k)
        unfold fTo
        rw [← HQ.out, hlen]
        split <;> omega)
      go_wp2_with fail
      go_roundw
      case rel => exact ⟨k + 1, by omega, by go_num, by rw [HV.out], HE.out.trans EX.out, old_cell EX.out b0, old_cell EX.out b1⟩
      case measure => simp [intOf]; omega
    · obtain rfl : k = s.length := by omega
      go_wp2_with fail
      go_ret
      exact ⟨by rw [← HQ.out]; rfl, HE.out⟩
theorem forOf_no {h : Int} {l : List T2} {o : List Int} (g : orderOk h l o = false) : forOf h l o = -1 := by unfold forOf; rw [g]; simp
theorem forOf_yes {h : Int} {l : List T2} {o : List Int} (g : orderOk h l o = true) : forOf h l o = forTo l h.toNat o o.length := by unfold forOf; rw [if_pos g]
theorem orderOk_house {h : Int} {l : List T2} {o : List Int} (g : orderOk h l o = true) : houseOk h l = true ∧ (o.length : Int) = h ∧ ∀ k, k < o.length → ordAt h o k = true := by
  unfold orderOk at g
  rw [Bool.and_eq_true, Bool.and_eq_true, beq_iff_eq] at g
  exact ⟨g.2.1, g.2.2, allN_iff.1 g.1⟩
set_option maxRecDepth 100000 in
set_option maxHeartbeats 1600000 in
theorem iFor_any (h : Int) (A : Option Addr) (n c : Nat) (l : List T2) (B : Option Addr) (m d : Nat) (s : List Int) (w : World) (hl : Row w A (l.flatMap T2.v)) (hn : l.length = n) (hx : n ≤ 1048577) (hs : Row w B (s.map (Value.int .i64))) (hm : s.length = m) (hy : m ≤ 1048577) (hcap : m ≤ d) :
    Gives Try.prog 21 #[.agg #[.int .i64 h, .slice A n c], .slice B m d] w (.int .i64 (forOf h l s)) := by
  subst hn hm
  cases ho : orderOk h l s
  · have HB := hid (forOf_no ho)
    (unfold Gives; go_enter Try.func21, Try.ntmps21)
    go_wp2_with (go_at_call 22; refine (gives_b ho (iOrderOk_any _ _ _ _ l _ _ _ s _ (hl.ext (by repeat (first | exact Ext.refl _ | refine Ext.alloc ?_ _ | assumption | refine Ext.over ?_ _ | refine Ext.drew ?_ | refine Ext.drewN ?_ _))) rfl hx (hs.ext (by repeat (first | exact Ext.refl _ | refine Ext.alloc ?_ _ | assumption | refine Ext.over ?_ _ | refine Ext.drew ?_ | refine Ext.drewN ?_ _))) rfl hy hcap)).over.mono ?_; rintro e w' ⟨rfl, xw, rfl⟩)
    go_ret
    exact ⟨by rw [HB.out]; rfl, by repeat (first | exact Ext.refl _ | refine Ext.alloc ?_ _ | assumption | refine Ext.over ?_ _ | refine Ext.drew ?_ | refine Ext.drewN ?_ _)⟩
  have HB := hid (forOf_yes ho)
  obtain ⟨hk, hlen, _⟩ := orderOk_house ho
  obtain ⟨hd, h1, h7, h12⟩ := houseOk_bounds hk
  have HD := hid hd
  have HO := hid ho
  clear hd hk ho
  obtain ⟨h, rfl⟩ : ∃ k : Nat, h = k := ⟨h.toNat, by omega⟩
  clear hlen
  (unfold Gives; go_enter Try.func21, Try.ntmps21)
  go_wp2_with (first | (go_at_call 22; refine (gives_b HO.out (iOrderOk_any _ _ _ _ l _ _ _ s _ (hl.ext (by repeat (first | exact Ext.refl _ | refine Ext.alloc ?_ _ | assumption | refine Ext.over ?_ _ | refine Ext.drew ?_ | refine Ext.drewN ?_ _))) rfl hx (hs.ext (by repeat (first | exact Ext.refl _ | refine Ext.alloc ?_ _ | assumption | refine Ext.over ?_ _ | refine Ext.drew ?_ | refine Ext.drewN ?_ _))) rfl hy hcap)).over.mono ?_; rintro e w' ⟨rfl, xw, rfl⟩) | (go_at_call 57; refine (igf_any h _ _ _ l _ _ _ s _ (hl.ext (by repeat (first | exact Ext.refl _ | refine Ext.alloc ?_ _ | assumption | refine Ext.over ?_ _ | refine Ext.drew ?_ | refine Ext.drewN ?_ _))) rfl h12 (by omega) HD.out (hs.ext (by repeat (first | exact Ext.refl _ | refine Ext.alloc ?_ _ | assumption | refine Ext.over ?_ _ | refine Ext.drew ?_ | refine Ext.drewN ?_ _))) rfl hy hcap).over.mono ?_; rintro e w' ⟨rfl, xw, rfl⟩))
  go_ret
  exact ⟨by rw [HB.out, Int.toNat_natCast]; rfl, by repeat (first | exact Ext.refl _ | refine Ext.alloc ?_ _ | assumption | refine Ext.over ?_ _ | refine Ext.drew ?_ | refine Ext.drewN ?_ _)⟩
end Go.Proofs.Ytngniniiohgilaa
