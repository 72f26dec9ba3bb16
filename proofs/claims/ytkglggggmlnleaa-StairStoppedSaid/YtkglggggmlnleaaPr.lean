/- Whether results are those of a history; lists copied. -/
import Derived.Test.YtkglggggmlnleaaC
import Derived.Test.YtkglggggmlnleaaPo
namespace Go.Proofs.Ytkglggggmlnleaa.Print
open Go.RowKit Go.Proofs.YtkglggggmlnleaaW.PrintWords Go.Proofs.YtkglggggmlnleaaW.PrintLast Go.Proofs.YtkglggggmlnleaaW.PrintMore
set_option linter.unusedVariables false
set_option linter.unusedSimpArgs false

end Go.Proofs.Ytkglggggmlnleaa.Print
