/- Lists of numbers: bounds, sizes. No condition. -/
import Derived.Test.YtmfmoihapnejeaaIntB
import Derived.Test.YtmfmoihapnejeaaFrame
namespace Go.Proofs.Ytmfmoihapnejeaa
open Go.RowKit
theorem cells_slI : Try.prog.cellsOf 32 = 1 := by kernel_rfl

end Go.Proofs.Ytmfmoihapnejeaa
