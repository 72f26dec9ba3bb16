/- A staircase that comes in as an argument. -/
import Derived.Test.YtkglggggmlnleaaX0
import Derived.Test.YtkglggggmlnleaaRows
import Derived.Deep.SlicePairs
import Derived.SizedLaws
import Derived.WalkKit
import Derived.ProofKit
import Derived.OpenShut
import Derived.ShutString
import Derived.ChangeOld
import Derived.Below
namespace Go.Proofs.Ytkglggggmlnleaa.Print
open Go.RowKit Go.Deep Go.ChangeShapes Go.WideShapes Go.Proofs.YtkglggggmlnleaaW.PrintWords Go.Proofs.YtkglggggmlnleaaW.PrintLast Go.Proofs.YtkglggggmlnleaaW.PrintMore
set_option linter.unusedVariables false
set_option linter.unusedSimpArgs false
theorem laidOut : laidOutB Try.prog = true := by kernel_rfl
/-- A run as it comes in. -/
def okRun (x : S43) : Prop := (Lit.int .i64 x.f0).wf = true ∧ (Lit.int .u8 x.f1).wf = true
set_option maxRecDepth 100000 in
theorem open24 {H : Type} {enc : TypeId × Value → H} {W : World} {base : Nat} {sp : Nat → Bool} {hd : Bool} {v : Value} {d : DataW H} {ps : List MemPlace} {r : Reach} {b0 : Nat}
    {ts : List TypeId} {ds : List (DataW H)} {j : Nat} (hsz : (DataW.weightsEach Try.prog ts ds).all (· ≤ reachBytes) = true) (ht : ts[j]? = some 24) (hdd : ds[j]? = some d)
    (hval : Value.okWide Try.prog W r b0 24 v) (h : DataW.Trod enc Try.prog W base sp hd 24 v d ps) :
    ∃ (a b : Int) (A : Option Addr) (c : Nat) (l : List S43), v = .agg #[.int .i64 a, .int .i64 b, .slice A l.length c] ∧ Kd.C k43 W A l.length l ∧ l.length ≤ c ∧ (Lit.int .i64 a).wf = true ∧ (Lit.int .i64 b).wf = true ∧ (∀ x ∈ l, okRun x) ∧ l.length * 16 ≤ 140737488351232 := by
  have hu24 := Try.underlying24
  obtain ⟨cs, rfl, hcs⟩ := okWide_struct hu24 hval
  obtain ⟨fuel, hf⟩ := h
  obtain ⟨xs, n, rfl, hx, hl, hxl, hfs⟩ := DataW.trod_struct hu24 hf
  have hc24 : Try.prog.cellsOf 24 = 3 := by kernel_rfl
  rw [hc24] at hcs
  obtain ⟨v0, v1, v2, rfl⟩ : ∃ v0 v1 v2, cs = #[v0, v1, v2] := by
    match cs, hcs with
    | ⟨[v0, v1, v2]⟩, _ => exact ⟨v0, v1, v2, rfl⟩
  have g0 := hfs 0 _ rfl
  have g1 := hfs 1 _ rfl
  have g2 := hfs 2 _ rfl
  match xs, hxl with
  | [y0, y1, y2], _ =>
    have c0 : Try.prog.cellsOf 3 = 1 := by kernel_rfl
    have c2 : Try.prog.cellsOf 22 = 1 := by kernel_rfl
    have hb22 : Try.prog.bytesOf 43 = 16 := by kernel_rfl
    change DataW.trod enc Try.prog W base sp hd n 3 (([v0, v1, v2].drop 0).take (Try.prog.cellsOf 3)) = some y0 at g0
    change DataW.trod enc Try.prog W base sp hd n 3 (([v0, v1, v2].drop 1).take (Try.prog.cellsOf 3)) = some y1 at g1
    change DataW.trod enc Try.prog W base sp hd n 22 (([v0, v1, v2].drop 2).take (Try.prog.cellsOf 22)) = some y2 at g2
    rw [c0] at g0 g1
    rw [c2] at g2
    simp only [List.drop_zero, List.drop_succ_cons, List.take_succ_cons, List.take_zero] at g0 g1 g2
    obtain ⟨a, ha, hya, wa⟩ := DataW.trod_int Try.underlying3 g0
    obtain ⟨b, hb, hyb, wb⟩ := DataW.trod_int Try.underlying3 g1
    simp only [List.cons.injEq, and_true] at ha hb
    subst ha hb
    have hw : ∀ k ∈ y2.1.weights Try.prog 22, k ≤ reachBytes := by
      intro k hk
      refine of_decide_eq_true (List.all_eq_true.1 hsz k (DataW.weights_mem_each ht hdd k ?_))
      have hd' : d = .agg [y0.1, y1.1, y2.1] := by have := congrArg Prod.fst hx; simpa using this
      rw [hd']
      simp only [DataW.weights, hu24, DataW.weightsEach, List.map_cons, List.map_nil, List.toList_toArray, List.mem_append, List.append_nil]
      exact .inr (.inr hk)
    rcases open_slice_pairs Try.underlying22 Try.underlying43 (by kernel_rfl) rfl rfl (by kernel_rfl) (by kernel_rfl) g2 with ⟨hcs, hy⟩ | ⟨ad, len, cap, m, n2, V0, V1, D0, D1, P0, P1, hcs, _, hlc, hcm, hm, hy, hcell⟩
    · simp only [List.cons.injEq, and_true] at hcs
      subst hcs
      exact ⟨a, b, none, 0, [], rfl, Kd.C_nil _ _, by simp, wa, wb, by simp, by simp⟩
    · simp only [List.cons.injEq, and_true] at hcs
      subst hcs
      have hlm : len ≤ m := by rw [hm]; split <;> omega
      have hv : ∀ i, i < len → ∃ q : Int × Int, V0 i = .int .i64 q.1 ∧ V1 i = .int .u8 q.2 ∧ (Lit.int .i64 q.1).wf = true ∧ (Lit.int .u8 q.2).wf = true := by
        intro i hi
        obtain ⟨_, _, t0, t1⟩ := hcell i (by omega)
        obtain ⟨q0, h0, _, w0⟩ := DataW.trod_int Try.underlying3 t0
        obtain ⟨q1, h1, _, w1⟩ := DataW.trod_int Try.underlying5 t1
        simp only [List.cons.injEq, and_true] at h0 h1
        exact ⟨(q0, q1), h0, h1, w0, w1⟩
      obtain ⟨q, hq⟩ := choose_lt hv
      have hlen : ((List.range len).map fun i => (⟨(q i).1, (q i).2⟩ : S43)).length = len := by simp
      refine ⟨a, b, some ad, cap, (List.range len).map fun i => ⟨(q i).1, (q i).2⟩, by rw [hlen], ?_, by rw [hlen]; exact hlc, wa, wb, ?_, ?_⟩
      · rw [hlen]
        refine ⟨hlen, by unfold maxLen at hcm; omega, fun _ => ⟨ad, rfl, fun i x hi => ⟨[.int .i64 x.f0, .int .u8 x.f1], rfl, k43_mk W x, fun k u hk => ?_⟩⟩⟩
        have hil : i < len := by have := (List.getElem?_eq_some_iff.1 hi).1; simpa using this
        have hxi : x = ⟨(q i).1, (q i).2⟩ := by simpa [hil] using hi.symm
        obtain ⟨c0', c1', _, _⟩ := hcell i (by omega)
        have := hq i hil
        match k, hk with
        | 0, hk => simp at hk; subst hk; rw [hxi]; rw [← this.1]; exact c0'
        | 1, hk => simp at hk; subst hk; rw [hxi]; rw [← this.2.1]; exact c1'
        | k + 2, hk => simp at hk
      · intro x hx
        obtain ⟨i, hi, rfl⟩ := List.mem_map.1 hx
        have := hq i (List.mem_range.1 hi)
        exact ⟨this.2.2.1, this.2.2.2⟩
      · rw [hlen]
        have := hw ((((List.range len).map fun i => DataW.agg [D0 i, D1 i]).length + ((List.range (m - len)).map fun j => DataW.agg [D0 (len + j), D1 (len + j)]).length) * 16) (by
          rw [show y2.1 = _ from congrArg Prod.fst hy]
          simp only [DataW.weights, Try.underlying22, hb22]
          exact List.mem_cons_self)
        simp only [List.length_map, List.length_range] at this
        have e : reachBytes = 140737488351232 := by decide
        omega
end Go.Proofs.Ytkglggggmlnleaa.Print
