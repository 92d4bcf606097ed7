/- Lists of numbers: bounds, sizes. No condition. -/
import Derived.Test.YtgejjhmkdpmbfaaIntB
import Derived.Test.YtgejjhmkdpmbfaaFrame
namespace Go.Proofs.Ytgejjhmkdpmbfaa
open Go.RowKit
theorem cells_slI : Try.prog.cellsOf 29 = 1 := by kernel_rfl

end Go.Proofs.Ytgejjhmkdpmbfaa
