/- Plain law of FnSeals: sealed records, and what a change breaks. No condition. -/
import Derived.Test.YtmnpipbchcjgnaaAppend
import Derived.Test.YtmnpipbchcjgnaaText
namespace Go.Proofs.Ytmnpipbchcjgnaa
open Go.RowKit
set_option linter.unusedVariables false

/-- A sealed record with small numbers and short texts, whose moments are at most T. -/
structure Rec (l : List EN) (T : Int) : Prop where
  ok : ∀ k, k < l.length → brokenAt l k = false
  bd : ∀ x, x ∈ l → (0 ≤ x.a ∧ x.a ≤ T) ∧ x.b.size ≤ 20 ∧ 0 ≤ x.c ∧ x.c ≤ 1000002
theorem atEN_mem {l : List EN} {k : Nat} (h : k < l.length) : atEN l k ∈ l := by rw [atEN_eq _ _ h]; exact List.getElem_mem h
theorem Rec.okx {l : List EN} {T : Int} (h : Rec l T) (hT : T ≤ 1000000) : ∀ x ∈ l, x.ok := fun x hx => by
  have := h.bd x hx
  exact ⟨by constructor <;> omega, by omega, by constructor <;> omega⟩
theorem Rec.broken {l : List EN} {T : Int} (h : Rec l T) : broken l = -1 := firstN_none h.ok
theorem Rec.sealed {l : List EN} {T : Int} (h : Rec l T) (hl : l.length ≤ 30) : sealed l = true := by
  unfold Go.Proofs.Ytmnpipbchcjgnaa.sealed; rw [h.broken]; simp [hl]
theorem Rec.mono {l : List EN} {T T' : Int} (h : Rec l T) (hT : T ≤ T') : Rec l T' := ⟨h.ok, fun x hx => by have := h.bd x hx; omega⟩
theorem Rec.prev {l : List EN} {T : Int} (h : Rec l T) {k : Nat} (hk : k ≤ l.length) : 0 ≤ prevSeal l k ∧ prevSeal l k ≤ 1000002 := by
  cases k with
  | zero => exact ⟨by simp [prevSeal], by simp [prevSeal]⟩
  | succ k => have := h.bd _ (atEN_mem (l := l) (k := k) (by omega)); simp only [prevSeal]; omega
theorem dig_ok {t : ByteArray} (h : t.size ≤ 200) : 0 ≤ dig t ∧ dig t < 1000003 := by
  have := digTo_lt t t.size
  unfold dig; rw [if_pos h]; exact this
theorem seal_val {s m : Int} {t : ByteArray} (hs : 0 ≤ s ∧ s ≤ 1000002) (hm : 0 ≤ m ∧ m ≤ 1000000) (ht : t.size ≤ 200) : sealOf s m t = (s * 1009 + m * 31 + dig t) % 1000003 := by
  unfold sealOf btw
  have := dig_ok ht
  rw [if_pos (by simp only [Bool.and_eq_true, decide_eq_true_eq]; omega)]
theorem seal_bd {s m : Int} {t : ByteArray} (hs : 0 ≤ s ∧ s ≤ 1000002) (hm : 0 ≤ m ∧ m ≤ 1000000) (ht : t.size ≤ 200) : 0 ≤ sealOf s m t ∧ sealOf s m t ≤ 1000002 := by
  rw [seal_val hs hm ht]; omega
theorem atEN_app {l m : List EN} {k : Nat} (h : k < l.length) : atEN (l ++ m) k = atEN l k := by
  rw [atEN_eq _ _ (by rw [List.length_append]; omega), atEN_eq _ _ h, List.getElem_append_left h]
theorem atEN_last (l : List EN) (y : EN) : atEN (l ++ [y]) l.length = y := by
  rw [atEN_eq _ _ (by simp), List.getElem_append_right (Nat.le_refl _)]; simp
theorem prev_congr {l l' : List EN} {k : Nat} (h : ∀ j, j + 1 = k → atEN l' j = atEN l j) : prevSeal l' k = prevSeal l k := by
  cases k with
  | zero => rfl
  | succ k => simp only [prevSeal]; rw [h k rfl]
theorem earlier_congr {l l' : List EN} {k : Nat} (h : ∀ j, j + 1 = k → atEN l' j = atEN l j) (ha : (atEN l' k).a = (atEN l k).a) : earlier l' k = earlier l k := by
  cases k with
  | zero => rfl
  | succ k => simp only [earlier]; rw [h k rfl, ha]
theorem at_congr {l l' : List EN} {k : Nat} (h : ∀ j, j ≤ k → atEN l' j = atEN l j) : brokenAt l' k = brokenAt l k := by
  unfold brokenAt nextSeal
  rw [prev_congr (fun j hj => h j (by omega)), earlier_congr (fun j hj => h j (by omega)) (by rw [h k (Nat.le_refl _)]), h k (Nat.le_refl _)]
/-- An entry more. -/
theorem Rec.app {l : List EN} {T m : Int} {t : ByteArray} (h : Rec l T) (hT : T ≤ m) (hm : 0 ≤ m ∧ m ≤ 1000000) (ht : t.size ≤ 20) (hl : l.length < 30) :
    canApp l m t = true ∧ appTo l m t = l ++ [⟨m, t, sealOf (prevSeal l l.length) m t⟩] ∧ Rec (l ++ [⟨m, t, sealOf (prevSeal l l.length) m t⟩]) m := by
  have hs := seal_bd (t := t) (h.prev (Nat.le_refl _)) hm (by omega)
  have hla : ∀ k, k < l.length → (atEN l k).a ≤ m := fun k hk => by have := h.bd _ (atEN_mem hk); omega
  have hc : canApp l m t = true := by
    unfold canApp
    rw [h.sealed (by omega)]
    have h1 : ((l.length : Int) == 30) = false := by rw [beq_eq_false_iff_ne]; omega
    have h2 : decide (sealOf (prevSeal l l.length) m t < 0) = false := decide_eq_false (by omega)
    rw [h1, h2]
    by_cases h0 : 0 < l.length
    · have h3 : decide (m < (atEN l (l.length - 1)).a) = false := decide_eq_false (by have := hla (l.length - 1) (by omega); omega)
      rw [h3]; simp
    · simp [h0]
  refine ⟨hc, by unfold appTo; rw [if_pos hc], fun k hk => ?_, fun x hx => ?_⟩
  · rw [List.length_append] at hk
    simp only [List.length_cons, List.length_nil] at hk
    rcases Nat.lt_or_ge k l.length with h1 | h1
    · rw [at_congr (l := l) (fun j hj => atEN_app (by omega))]; exact h.ok k h1
    · obtain rfl : k = l.length := by omega
      have hp : prevSeal (l ++ [⟨m, t, sealOf (prevSeal l l.length) m t⟩]) l.length = prevSeal l l.length := prev_congr (fun j hj => atEN_app (by omega))
      unfold brokenAt nextSeal
      rw [hp, atEN_last]
      have h4 : decide (sealOf (prevSeal l l.length) m t < 0) = false := decide_eq_false (by omega)
      have h5 : earlier (l ++ [⟨m, t, sealOf (prevSeal l l.length) m t⟩]) l.length = false := by
        cases hn : l.length with
        | zero => rfl
        | succ n =>
          have h6 := hla n (by omega)
          have h7 := atEN_last l ⟨m, t, sealOf (prevSeal l l.length) m t⟩
          have h8 := atEN_app (l := l) (m := [⟨m, t, sealOf (prevSeal l l.length) m t⟩]) (k := n) (by omega)
          rw [hn] at h7 h8
          simp only [earlier]
          rw [h7, h8]
          exact decide_eq_false (by show ¬ m < _; omega)
      simp only [h4, h5]
      simp
  · rcases List.mem_append.1 hx with hx | hx
    · have := h.bd x hx; omega
    · obtain rfl : x = ⟨m, t, sealOf (prevSeal l l.length) m t⟩ := by simpa using hx
      exact ⟨⟨hm.1, Int.le_refl _⟩, ht, hs.1, hs.2⟩
theorem atEN_set_ne {l : List EN} {k j : Nat} {y : EN} (h : j ≠ k) : atEN (l.set k y) j = atEN l j := by
  unfold atEN List.getD
  rw [List.getElem?_set_ne (fun e => h e.symm)]
theorem atEN_set_eq {l : List EN} {k : Nat} {y : EN} (h : k < l.length) : atEN (l.set k y) k = y := by
  unfold atEN List.getD
  rw [List.getElem?_set_self h]; rfl
/-- A changed entry is the first that is broken. -/
theorem broken_set {l : List EN} {T : Int} (h : Rec l T) {k : Nat} (hk : k < l.length) {y : EN} (hy : sealOf (prevSeal l k) y.a y.b ≠ y.c) : broken (l.set k y) = k := by
  refine firstN_hit (fun j hj => ?_) (by rw [List.length_set]; exact hk) ?_
  · rw [at_congr (l := l) (fun i hi => atEN_set_ne (by omega))]; exact h.ok j (by omega)
  · unfold brokenAt nextSeal
    rw [prev_congr (l := l) (fun j hj => atEN_set_ne (by omega)), atEN_set_eq hk]
    have : (sealOf (prevSeal l k) y.a y.b == y.c) = false := by rw [beq_eq_false_iff_ne]; exact hy
    rw [this]; simp
theorem Rec.next {l : List EN} {T : Int} (h : Rec l T) {k : Nat} (hk : k < l.length) : sealOf (prevSeal l k) (atEN l k).a (atEN l k).b = (atEN l k).c := by
  have := h.ok k hk
  unfold brokenAt nextSeal at this
  simp only [Bool.or_eq_false_iff, Bool.not_eq_false', beq_iff_eq] at this
  exact this.1.2
/-- Another digest, another seal. -/
theorem seal_ne {s m : Int} {t t' : ByteArray} (hs : 0 ≤ s ∧ s ≤ 1000002) (hm : 0 ≤ m ∧ m ≤ 1000000) (ht : t.size ≤ 200) (ht' : t'.size ≤ 200) (hd : dig t' ≠ dig t) : sealOf s m t' ≠ sealOf s m t := by
  rw [seal_val hs hm ht, seal_val hs hm ht']
  have h1 := dig_ok ht
  have h2 := dig_ok ht'
  omega
theorem broken_text {l : List EN} {T : Int} (h : Rec l T) (hT : T ≤ 1000000) {k : Nat} (hk : k < l.length) {t : ByteArray} (ht : t.size ≤ 200) (hd : dig t ≠ dig (atEN l k).b) : broken (l.set k ⟨(atEN l k).a, t, (atEN l k).c⟩) = k := by
  refine broken_set h hk ?_
  have hb := h.bd _ (atEN_mem hk)
  show sealOf (prevSeal l k) (atEN l k).a t ≠ (atEN l k).c
  rw [← h.next hk]
  exact seal_ne (h.prev (by omega)) (by omega) (by omega) ht hd
theorem broken_seal {l : List EN} {T : Int} (h : Rec l T) {k : Nat} (hk : k < l.length) {c : Int} (hc : c ≠ (atEN l k).c) : broken (l.set k ⟨(atEN l k).a, (atEN l k).b, c⟩) = k := by
  refine broken_set h hk ?_
  show sealOf (prevSeal l k) (atEN l k).a (atEN l k).b ≠ c
  rw [h.next hk]; exact fun e => hc e.symm
theorem sealed_no {l : List EN} {k : Nat} (h : broken l = k) : sealed l = false := by
  unfold sealed
  rw [h]
  have : decide ((k : Int) < 0) = false := decide_eq_false (by omega)
  rw [this, Bool.and_false]
/-- One byte changed, another digest. -/
theorem digTo_ne {s s' : ByteArray} {i : Nat} (hne : byteAt s' i ≠ byteAt s i) (heq : ∀ j, j ≠ i → byteAt s' j = byteAt s j) : ∀ k, (k ≤ i → digTo s' k = digTo s k) ∧ (i < k → digTo s' k ≠ digTo s k)
  | 0 => ⟨fun _ => rfl, fun h => by omega⟩
  | k + 1 => by
    have ih := digTo_ne hne heq k
    have b1 := byteAt_lt s k
    have b2 := byteAt_lt s' k
    have d1 := digTo_lt s k
    have d2 := digTo_lt s' k
    unfold digTo
    constructor
    · intro h
      rw [ih.1 (by omega), heq k (by omega)]
    · intro h
      by_cases hki : k = i
      · rw [ih.1 (by omega)]
        subst hki
        omega
      · rw [heq k hki]
        have := ih.2 (by omega)
        omega
theorem dig_ne {s s' : ByteArray} {i : Nat} (hs : s.size ≤ 200) (hsz : s'.size = s.size) (hi : i < s.size) (hne : byteAt s' i ≠ byteAt s i) (heq : ∀ j, j ≠ i → byteAt s' j = byteAt s j) : dig s' ≠ dig s := by
  unfold dig
  rw [hsz, if_pos hs, if_pos hs]
  exact (digTo_ne hne heq s.size).2 hi
theorem nums_byte {xs : List Int} (hx : ∀ z ∈ xs, 0 ≤ z ∧ z < 256) (j : Nat) : byteAt (strOfNums xs) j = xs.getD j 0 := by
  unfold byteAt
  split
  · rename_i h
    have hl : j < xs.length := by rwa [strOfNums_size] at h
    have hb := hx _ (List.getElem_mem hl)
    have : (strOfNums xs)[j]'h = UInt8.ofNat (xs[j].toNat) := by
      show (strOfNums xs).data[j] = _
      simp [strOfNums]
    rw [this, List.getD_eq_getElem?_getD, List.getElem?_eq_getElem hl]
    simp
    omega
  · rename_i h
    rw [strOfNums_size] at h
    rw [List.getD_eq_getElem?_getD, List.getElem?_eq_none (by omega)]; rfl
def bytesL (s : ByteArray) : List Int := (List.range s.size).map (byteAt s)
theorem bytesL_len (s : ByteArray) : (bytesL s).length = s.size := by simp [bytesL]
theorem bytesL_get {s : ByteArray} {j : Nat} (h : j < s.size) : (bytesL s).getD j 0 = byteAt s j := by simp [bytesL, List.getD, h]
theorem bytesL_bd (s : ByteArray) : ∀ z ∈ bytesL s, 0 ≤ z ∧ z < 256 := fun z hz => by
  obtain ⟨j, _, rfl⟩ := List.mem_map.1 hz
  exact byteAt_lt s j
theorem byteAt_out {s : ByteArray} {j : Nat} (h : s.size ≤ j) : byteAt s j = 0 := by unfold byteAt; rw [dif_neg (by omega)]
/-- The text with one byte changed. -/
def chg (s : ByteArray) (i : Nat) : ByteArray := strOfNums ((bytesL s).set i ((byteAt s i + 1) % 256))
theorem chg_size (s : ByteArray) (i : Nat) : (chg s i).size = s.size := by unfold chg; rw [strOfNums_size, List.length_set, bytesL_len]
theorem chg_dig {s : ByteArray} {i : Nat} (hs : s.size ≤ 200) (hi : i < s.size) : dig (chg s i) ≠ dig s := by
  have hb := byteAt_lt s i
  have hx : ∀ z ∈ (bytesL s).set i ((byteAt s i + 1) % 256), 0 ≤ z ∧ z < 256 := fun z hz => by
    rcases List.mem_or_eq_of_mem_set hz with h | h
    · exact bytesL_bd s z h
    · omega
  refine dig_ne hs (chg_size s i) hi ?_ fun j hj => ?_
  · unfold chg
    rw [nums_byte hx, List.getD_eq_getElem?_getD, List.getElem?_set_self (by rw [bytesL_len]; exact hi)]
    simp only [Option.getD_some]
    omega
  · unfold chg
    rw [nums_byte hx, List.getD_eq_getElem?_getD, List.getElem?_set_ne (fun e => hj e.symm), ← List.getD_eq_getElem?_getD]
    rcases Nat.lt_or_ge j s.size with h | h
    · exact bytesL_get h
    · rw [byteAt_out h, List.getD_eq_getElem?_getD, List.getElem?_eq_none (by rw [bytesL_len]; exact h)]; rfl
theorem dig_empty {s : ByteArray} (h : s.size = 0) : dig s = 7 := by unfold dig; rw [h]; rfl
theorem dig_a : dig (strOfNums [97]) = 1897 := by decide +kernel
theorem dig_ab : dig ⟨#[97, 98]⟩ ≠ dig ⟨#[98, 97]⟩ := by decide +kernel
end Go.Proofs.Ytmnpipbchcjgnaa
