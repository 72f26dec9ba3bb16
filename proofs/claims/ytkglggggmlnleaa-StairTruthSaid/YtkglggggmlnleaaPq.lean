/- Plain laws of the ranks: rising, and of stopped runs. -/
import Derived.Test.YtkglggggmlnleaaPk
namespace Go.Proofs.Ytkglggggmlnleaa.Print
open Go.RowKit Go.Proofs.YtkglggggmlnleaaW.PrintWords Go.Proofs.YtkglggggmlnleaaW.PrintLast Go.Proofs.YtkglggggmlnleaaW.PrintMore
set_option linter.unusedVariables false
set_option linter.unusedSimpArgs false
end Go.Proofs.Ytkglggggmlnleaa.Print
