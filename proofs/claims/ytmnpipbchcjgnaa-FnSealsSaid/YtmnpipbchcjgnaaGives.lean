/- A call's result under another name. No condition. -/
import Derived.Test.YtmnpipbchcjgnaaPush
namespace Go.Proofs.Ytmnpipbchcjgnaa
open Go.RowKit
theorem gives_b {P : Program} {f : FuncId} {args : Array Value} {w : World} {p b : Bool} (h : p = b) (g : Gives P f args w (.bool p)) : Gives P f args w (.bool b) := h ▸ g
theorem gives_v {P : Program} {f : FuncId} {args : Array Value} {w : World} {p b : Int} (h : p = b) (g : Gives P f args w (.int .i64 p)) : Gives P f args w (.int .i64 b) := h ▸ g
end Go.Proofs.Ytmnpipbchcjgnaa
