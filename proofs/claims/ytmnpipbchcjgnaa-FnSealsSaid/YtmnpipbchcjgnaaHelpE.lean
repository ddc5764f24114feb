/- Walks of the helpers of the laws: copies, comparisons, marks. No condition but sizes. -/
import Derived.Test.YtmnpipbchcjgnaaRows
import Derived.Test.YtmnpipbchcjgnaaRowM
namespace Go.Proofs.Ytmnpipbchcjgnaa
open Go.RowKit
theorem info_Entry : (Try.prog.info? 31).map (fun i => (i.zero, i.size, i.bytes)) = some (some (.agg #[.int .i64 0, .string ByteArray.empty, .int .i64 0]), 3, 32) := by kernel_rfl
end Go.Proofs.Ytmnpipbchcjgnaa
