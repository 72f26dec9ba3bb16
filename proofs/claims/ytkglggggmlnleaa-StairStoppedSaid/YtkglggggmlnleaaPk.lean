/- Plain laws of the spans: what becomes of them with more histories; their ends. -/
import Derived.Test.YtkglggggmlnleaaHm
import Derived.Test.YtkglggggmlnleaaRk
namespace Go.Proofs.Ytkglggggmlnleaa.Print
open Go.RowKit Go.Proofs.YtkglggggmlnleaaW.PrintWords Go.Proofs.YtkglggggmlnleaaW.PrintLast Go.Proofs.YtkglggggmlnleaaW.PrintMore
set_option linter.unusedVariables false
set_option linter.unusedSimpArgs false
end Go.Proofs.Ytkglggggmlnleaa.Print
