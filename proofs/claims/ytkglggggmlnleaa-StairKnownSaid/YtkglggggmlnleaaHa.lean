/- One run, checked. -/
import Derived.Test.YtkglggggmlnleaaXA
namespace Go.Proofs.Ytkglggggmlnleaa.Print
open Go.RowKit Go.Proofs.YtkglggggmlnleaaW.PrintWords Go.Proofs.YtkglggggmlnleaaW.PrintLast Go.Proofs.YtkglggggmlnleaaW.PrintMore
set_option linter.unusedVariables false
set_option linter.unusedSimpArgs false

set_option maxHeartbeats 1000000 in
set_option maxRecDepth 100000 in
theorem all1_calls (L st : Int) (A : Option Addr) (c : Nat) (l : List S67) (lv r : Int) (b : Bool) (w : World) (B : Nat)
    (hr : Kd.C k67 w A l.length l) (hc : l.length ≤ c)
    (hb : w.heap[B]? = some (.cells #[.func (.func 59) #[.agg #[.int .i64 L, .int .i64 st, .slice A l.length c]] #[]] 102 (0, 0)))
    (h : stair_Stairs_run.f L st l lv r = some b) :
    Calls Try.prog 76 #[.agg #[.int .i64 lv, .int .u8 r], .pointer (some ⟨B, 0, none⟩)] w fun e w' => e = .returned (.bool (!b)) ∧ Below w.heap.size w w' := by
  have hu67 := Try.underlying67
  have hcB : w.cell? ⟨B, 0, none⟩ = some (.func (.func 59) #[.agg #[.int .i64 L, .int .i64 st, .slice A l.length c]] #[]) := (blk_cell hb 0).trans rfl
  have hfB := blk_frozen hb 0
  have hlt := blk_lt hb
  have HR := Aside0.mk hr
  have HC := Aside0.mk hc
  have HH := Aside0.mk h
  clear hr hc h
  go_enter Try.func76, Try.ntmps76
  go_wp2_with fail
  refine (stair_Stairs_run.calls L st A c l lv r b _ (Kd.C_below HR.out ((Below.refl _ _).alloc (Nat.le_refl _) _)) HC.out HH.out).mono ?_
  rintro e w' ⟨rfl, hb1⟩
  go_wp2_with fail
  go_ret
  exact ⟨rfl, ((Below.refl _ _).alloc (Nat.le_refl _) _).trans (hb1.mono (by simp))⟩
end Go.Proofs.Ytkglggggmlnleaa.Print
