/- The iterator is made. -/
import Derived.Test.YtkglggggmlnleaaH
namespace Go.Proofs.Ytkglggggmlnleaa.Print
open Go.RowKit Go.Proofs.YtkglggggmlnleaaW.PrintWords Go.Proofs.YtkglggggmlnleaaW.PrintLast Go.Proofs.YtkglggggmlnleaaW.PrintMore
set_option linter.unusedVariables false
set_option linter.unusedSimpArgs false

theorem new_at {w : World} {o : Obj} {k : Nat} (h : w.heap.size = k) : (w.alloc o).heap[k]? = some o := h ▸ blk_new w o
set_option maxHeartbeats 2000000 in
set_option maxRecDepth 100000 in
theorem histories_calls (L st : Int) (A : Option Addr) (c : Nat) (xs : List S67) (w : World) (hr : Kd.C k67 w A xs.length xs) (hc : xs.length ≤ c) :
    Calls Try.prog 46 #[.agg #[.int .i64 L, .int .i64 st, .slice A xs.length c]] w fun e w' => ∃ bs bm bk bc km, e = .returned (.func (.func 69) #[] #[.pointer (some ⟨bs, 0, none⟩), .pointer (some ⟨bm, 0, none⟩), .pointer (some ⟨bc, 0, none⟩)]) ∧
      IterSt w' bs bm bk bc km L st A c xs ∧ Below w.heap.size w w' ∧ (w.heap.size ≤ bs ∧ w.heap.size ≤ bm ∧ w.heap.size ≤ bk ∧ w.heap.size ≤ bc ∧ w.heap.size ≤ km) := by
  have hu34 := Try.underlying34
  have HR := Aside0.mk hr
  clear hr
  have hmk : ∀ W : World, (Instr.makeMap 117 none).run Try.prog W = .ok (.map (some W.heap.size)) (W.alloc (.map #[] 0)) := fun W => run_makeMap 117 W
  go_enter Try.func46, Try.ntmps46
  go_wp2_with fail
  go_ret
  refine ⟨w.heap.size, w.heap.size + 1, w.heap.size + 1 + 1 + 1, w.heap.size + 1 + 1 + 1 + 1, w.heap.size + 1 + 1, rfl, ⟨?_, ?_, ?_, ?_, ?_, ?_, hc⟩, ?_, by omega, by omega, by omega, by omega, by omega⟩
  · exact blk_alloc (blk_alloc (blk_alloc (blk_alloc (new_at rfl) _) _) _) _
  · exact blk_alloc (blk_alloc (blk_alloc (new_at (by simp)) _) _) _
  · exact blk_alloc (new_at (by simp)) _
  · exact new_at (by simp)
  · exact ⟨#[], 0, blk_alloc (blk_alloc (new_at (by simp)) _) _, by simp⟩
  · exact Kd.C_alloc (Kd.C_alloc (Kd.C_alloc (Kd.C_alloc (Kd.C_alloc HR.out _) _) _) _) _
  · exact (((((Below.refl _ w).alloc (by simp) _).alloc (by simp; try omega) _).alloc (by simp; try omega) _).alloc (by simp; try omega) _).alloc (by simp; try omega) _
end Go.Proofs.Ytkglggggmlnleaa.Print
