/- The reference's owners sign. Conditions: as each theorem states them. -/
import Derived.Test.YtgeplpdcnanmnaaGreatZao
namespace Go.Proofs.YtgeplpdcnanmnaaGreat
open Go.RowKit
set_option linter.unusedVariables false
set_option linter.unusedSimpArgs false

theorem under_sig : Tryz.prog.underlying 37 = some (.struct (Tryz.prog.fieldsOf 37)) := by kernel_rfl
theorem size_sig : (Tryz.prog.info? 37).map (·.size) = some 3 := by kernel_rfl
end Go.Proofs.YtgeplpdcnanmnaaGreat
