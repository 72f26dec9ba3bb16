/- Written by a program of this claim: functions of the program and of the laws, and what they compute. -/
import Derived.Test.YtkglggggmlnleaaAw
import Derived.Test.YtkglggggmlnleaaCk
import Derived.Test.YtkglggggmlnleaaHs
import Derived.Test.YtkglggggmlnleaaMi
import Derived.Test.YtkglggggmlnleaaRk
import Derived.Test.YtkglggggmlnleaaX0
namespace Go.Proofs.Ytkglggggmlnleaa.Print
open Go.RowKit Go.Proofs.YtkglggggmlnleaaW.PrintWords Go.Proofs.YtkglggggmlnleaaW.PrintLast Go.Proofs.YtkglggggmlnleaaW.PrintMore
attribute [local go_sem] max2_int min2_int max_two min_two max_three min_three max_four min_four   -- for this text's walks alone
set_option linter.unusedVariables false
set_option linter.unusedSimpArgs false

/-! ### tensilelaw04_awake: function 17, told by hand -/
def tensilelaw04_awake.f  : Option (Bool) := some true
theorem tensilelaw04_awake.calls  (r : Bool) (w : World) (h : tensilelaw04_awake.f  = some r) :
    Calls Try.prog 17 #[] w fun e w' => e = .returned (.bool r) ∧ Below w.heap.size w w' := by
  cases h; exact awake_calls w

/-! ### stair_Middle: function 18, told by hand -/
def stair_Middle.f (a0_0 : Int) (a0_1 : Int) (l0_2 : List (S67)) : Option (Int × Int × Int) := some ((midR a0_0 a0_1 l0_2).1, (midR a0_0 a0_1 l0_2).2, midE a0_0 a0_1 l0_2)
theorem stair_Middle.calls (a0_0 : Int) (a0_1 : Int) (A0_2 : Option Addr) (c0_2 : Nat) (l0_2 : List (S67)) (r1 : Int) (r2 : Int) (r3 : Int) (w : World) (hr0_2 : Kd.C k67 w A0_2 l0_2.length l0_2) (hc0_2 : l0_2.length ≤ c0_2) (h : stair_Middle.f a0_0 a0_1 l0_2 = some (r1, r2, r3)) :
    Calls Try.prog 18 #[.agg #[.int .i64 a0_0, .int .i64 a0_1, .slice A0_2 l0_2.length c0_2]] w fun e w' => e = .returned (.tuple #[.agg #[.int .i64 r1, .int .i64 r2], .int .i64 r3]) ∧ Below w.heap.size w w' := by
  cases h; exact middle_calls a0_0 a0_1 A0_2 c0_2 l0_2 w hr0_2 hc0_2

/-! ### stair_Histories: function 24, told by hand -/
def stair_Histories.f (a0_0 : Int) (a0_1 : Int) (l0_2 : List (S67)) : Option (Int × Int) := some (manyI a0_0 a0_1 l0_2, possI a0_0 a0_1 l0_2)
theorem stair_Histories.calls (a0_0 : Int) (a0_1 : Int) (A0_2 : Option Addr) (c0_2 : Nat) (l0_2 : List (S67)) (r1 : Int) (r2 : Int) (w : World) (hr0_2 : Kd.C k67 w A0_2 l0_2.length l0_2) (hc0_2 : l0_2.length ≤ c0_2) (h : stair_Histories.f a0_0 a0_1 l0_2 = some (r1, r2)) :
    Calls Try.prog 24 #[.agg #[.int .i64 a0_0, .int .i64 a0_1, .slice A0_2 l0_2.length c0_2]] w fun e w' => e = .returned (.tuple #[.int .i64 r1, .int .i64 r2]) ∧ Below w.heap.size w w' := by
  cases h; exact count_calls a0_0 a0_1 A0_2 c0_2 l0_2 w hr0_2 hc0_2

/-! ### stair_Rank: function 25, told by hand -/
def stair_Rank.f (a0_0 : Int) (a0_1 : Int) (l0_2 : List (S67)) (a1 : Int) : Option (Int × Int × Int) := some ((rankR a0_0 a0_1 l0_2 a1).1, (rankR a0_0 a0_1 l0_2 a1).2, askE a0_0 a0_1 l0_2 a1)
theorem stair_Rank.calls (a0_0 : Int) (a0_1 : Int) (A0_2 : Option Addr) (c0_2 : Nat) (l0_2 : List (S67)) (a1 : Int) (r1 : Int) (r2 : Int) (r3 : Int) (w : World) (hr0_2 : Kd.C k67 w A0_2 l0_2.length l0_2) (hc0_2 : l0_2.length ≤ c0_2) (h : stair_Rank.f a0_0 a0_1 l0_2 a1 = some (r1, r2, r3)) :
    Calls Try.prog 25 #[.agg #[.int .i64 a0_0, .int .i64 a0_1, .slice A0_2 l0_2.length c0_2], .int .i64 a1] w fun e w' => e = .returned (.tuple #[.agg #[.int .i64 r1, .int .i64 r2], .int .i64 r3]) ∧ Below w.heap.size w w' := by
  cases h; exact rank_calls a0_0 a0_1 A0_2 c0_2 l0_2 a1 w hr0_2 hc0_2

/-! ### stair_CheckStairs: function 31, told by hand -/
def stair_CheckStairs.f (a0_0 : Int) (a0_1 : Int) (l0_2 : List (S67)) : Option (Int) := some (checkI a0_0 a0_1 l0_2)
theorem stair_CheckStairs.calls (a0_0 : Int) (a0_1 : Int) (A0_2 : Option Addr) (c0_2 : Nat) (l0_2 : List (S67)) (r : Int) (w : World) (hr0_2 : Kd.C k67 w A0_2 l0_2.length l0_2) (hc0_2 : l0_2.length ≤ c0_2) (h : stair_CheckStairs.f a0_0 a0_1 l0_2 = some r) :
    Calls Try.prog 31 #[.agg #[.int .i64 a0_0, .int .i64 a0_1, .slice A0_2 l0_2.length c0_2]] w fun e w' => e = .returned (.int .i64 r) ∧ Below w.heap.size w w' := by
  cases h; exact check_calls a0_0 a0_1 A0_2 c0_2 l0_2 w hr0_2 hc0_2 (Kd.C_max hr0_2)

end Go.Proofs.Ytkglggggmlnleaa.Print
