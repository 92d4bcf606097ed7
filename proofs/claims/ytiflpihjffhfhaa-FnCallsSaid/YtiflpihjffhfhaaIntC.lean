/- Lists of numbers: bounds, sizes. No condition. -/
import Derived.Test.YtiflpihjffhfhaaIntB
import Derived.Test.YtiflpihjffhfhaaFrame
namespace Go.Proofs.Ytiflpihjffhfhaa
open Go.RowKit
theorem cells_slI : Try.prog.cellsOf 24 = 1 := by kernel_rfl

end Go.Proofs.Ytiflpihjffhfhaa
