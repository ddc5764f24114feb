/- Walks of the laws' helpers: the text of a mark; records that are marked and held. Conditions: sizes. -/
import Derived.Test.YtmnpipbchcjgnaaHelpE
import Derived.Laws.BytesArg
import Derived.Test.YtmnpipbchcjgnaaPush
namespace Go.Proofs.Ytmnpipbchcjgnaa
open Go.RowKit
set_option linter.unusedVariables false

def digB (k : Nat) : ByteArray := strOfNums [48 + (k : Int) % 10]
def digsOn : Nat → Nat → ByteArray → ByteArray
  | 0, _, out => out
  | f + 1, k, out => if k = 0 then out else digsOn f (k / 10) (digB k ++ out)
def mtext (k : Int) : ByteArray := ⟨#[109]⟩ ++ digsOn 20 k.toNat ⟨#[]⟩
theorem digB_size (k : Nat) : (digB k).size = 1 := strOfNums_size _
end Go.Proofs.Ytmnpipbchcjgnaa
