/- Whether results are those of a history; lists copied. -/
import Derived.Test.YtkglggggmlnleaaC
import Derived.Test.YtkglggggmlnleaaPo
namespace Go.Proofs.Ytkglggggmlnleaa.Print
open Go.RowKit Go.Proofs.YtkglggggmlnleaaW.PrintWords Go.Proofs.YtkglggggmlnleaaW.PrintLast Go.Proofs.YtkglggggmlnleaaW.PrintMore
set_option linter.unusedVariables false
set_option linter.unusedSimpArgs false

/-- Are results those of a history, from a level on? -/
def walkB (L : Int) : Int → List S67 → List Int → Bool
  | l, x :: xs, r :: rs => decide (r < 3) && mayB x l r && walkB L (nxt L l r) xs rs
  | _, _, _ => true
end Go.Proofs.Ytkglggggmlnleaa.Print
