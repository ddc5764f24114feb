/- Sets of small numbers as bits. Conditions: at most seven. -/
import Derived.Test.YtngniniiohgilaaInts
namespace Go.Proofs.Ytngniniiohgilaa
open Go.RowKit
set_option linter.unusedVariables false

theorem pow_small {n : Nat} (h : n ≤ 8) : wrap64 (2 ^ n) = ((2 ^ n : Nat) : Int) ∧ 2 ^ n ≤ 256 := by
  rcases (show n = 0 ∨ n = 1 ∨ n = 2 ∨ n = 3 ∨ n = 4 ∨ n = 5 ∨ n = 6 ∨ n = 7 ∨ n = 8 by omega) with rfl | rfl | rfl | rfl | rfl | rfl | rfl | rfl | rfl <;> exact ⟨IntWalk.wrap64_in _ (by decide), by decide⟩
set_option maxRecDepth 20000 in
theorem and_one : ∀ q, q < 256 → bits .and .i64 ((q : Nat) : Int) 1 = if q % 2 = 1 then 1 else 0 := by decide
theorem bit_of {S k : Nat} (h : S < 256) : bits .and .i64 ((S : Int) / 2 ^ k) 1 = if S.testBit k then 1 else 0 := by
  have e : ((S : Int) / 2 ^ k) = ((S / 2 ^ k : Nat) : Int) := by
    rw [Int.natCast_ediv, Int.natCast_pow]; rfl
  rw [e, and_one _ (Nat.lt_of_le_of_lt (Nat.div_le_self _ _) h), Nat.testBit_eq_decide_div_mod_eq]
  simp
theorem bit_no {S k : Nat} (h : S < 256) (hb : S.testBit k = false) : (bits .and .i64 ((S : Int) / 2 ^ k) 1 == 0) = true ∧ (bits .and .i64 ((S : Int) / 2 ^ k) 1 == 1) = false := by
  rw [bit_of h, hb]; exact ⟨rfl, rfl⟩
theorem bit_yes {S k : Nat} (h : S < 256) (hb : S.testBit k = true) : (bits .and .i64 ((S : Int) / 2 ^ k) 1 == 0) = false ∧ (bits .and .i64 ((S : Int) / 2 ^ k) 1 == 1) = true := by
  rw [bit_of h, hb]; exact ⟨rfl, rfl⟩
theorem ofInt_i64 (a : Nat) (ha : a < 18446744073709551616) : (BitVec.ofInt 64 (a : Int)).toNat = a := by
  rw [BitVec.ofInt_natCast, BitVec.toNat_ofNat]; exact Nat.mod_eq_of_lt (by omega)
theorem or_nat (a b : Nat) (ha : a < 4611686018427387904) (hb : b < 4611686018427387904) : bits .or .i64 (a : Int) (b : Int) = ((a ||| b : Nat) : Int) := by
  have hx : a ||| b < 2 ^ 62 := Nat.or_lt_two_pow (by omega) (by omega)
  show IntKind.i64.wrap ((BitVec.ofInt 64 (a : Int) ||| BitVec.ofInt 64 (b : Int)).toNat : Int) = _
  rw [BitVec.toNat_or, ofInt_i64 a (by omega), ofInt_i64 b (by omega)]
  rw [IntKind.wrap_i64]; omega
theorem or_bit {S k : Nat} (hS : S < 128) (hk : k < 7) : bits .or .i64 (S : Int) (wrap64 (2 ^ k)) = ((S ||| 2 ^ k : Nat) : Int) ∧ S ||| 2 ^ k < 128 := by
  have h2 : 2 ^ k < 128 := Nat.pow_lt_pow_right (by omega) (show k < 7 by omega)
  rw [(pow_small (show k ≤ 8 by omega)).1, or_nat _ _ (by omega) (by omega)]
  exact ⟨rfl, Nat.or_lt_two_pow (n := 7) hS h2⟩
theorem or_test {S k j : Nat} : (S ||| 2 ^ k).testBit j = (S.testBit j || k == j) := by
  rw [Nat.testBit_or, Nat.testBit_two_pow]
  congr 1
/-- The set of the first k numbers. -/
def setTo (s : List Int) : Nat → Nat
  | 0 => 0
  | k + 1 => setTo s k ||| 2 ^ (atI s k).toNat
theorem setTo_lt {s : List Int} : ∀ {k : Nat}, k ≤ s.length → (∀ j, j < k → 0 ≤ atI s j ∧ atI s j < 7) → setTo s k < 128
  | 0, _, _ => by show 0 < 128; decide
  | k + 1, hk, h => by
    have h1 := setTo_lt (k := k) (by omega) (fun j hj => h j (by omega))
    have h2 := h k (by omega)
    exact (or_bit h1 (show (atI s k).toNat < 7 by omega)).2
theorem setTo_mem {s : List Int} : ∀ {k : Nat}, k ≤ s.length → (∀ j, j < k → 0 ≤ atI s j) → ∀ j : Nat, (setTo s k).testBit j = memI (s.take k) j
  | 0, _, _, j => by
    rw [List.take_zero]
    have : memI [] (j : Int) = false := by rw [memI_cons_no]; intro k hk; simp at hk
    rw [this]; exact Nat.zero_testBit j
  | k + 1, hk, h, j => by
    have h1 := setTo_mem (k := k) (by omega) (fun i hi => h i (by omega)) j
    have h2 := h k (by omega)
    rw [memI_take (by omega), ← h1]
    show (setTo s k ||| 2 ^ (atI s k).toNat).testBit j = _
    rw [or_test]
    congr 1
    rw [Bool.eq_iff_iff, beq_iff_eq, beq_iff_eq]
    omega
end Go.Proofs.Ytngniniiohgilaa
