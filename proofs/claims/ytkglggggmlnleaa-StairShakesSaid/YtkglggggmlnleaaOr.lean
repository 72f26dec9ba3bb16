/- Lists of numbers and of truths that come in as arguments. -/
import Derived.Test.YtkglggggmlnleaaOq
namespace Go.Proofs.Ytkglggggmlnleaa.Print
open Go.RowKit Go.Deep Go.ChangeShapes Go.WideShapes Go.Proofs.YtkglggggmlnleaaW.PrintWords Go.Proofs.YtkglggggmlnleaaW.PrintLast Go.Proofs.YtkglggggmlnleaaW.PrintMore
set_option linter.unusedVariables false
set_option linter.unusedSimpArgs false
/-- What a cell of truths holds. -/
def truthOf : Option Value → Bool
  | some (.bool b) => b
  | _ => false
set_option maxRecDepth 100000 in
theorem openbools {H : Type} {enc : TypeId × Value → H} {W : World} {base : Nat} {sp : Nat → Bool} {hd : Bool} {v : Value} {d : DataW H} {ps : List MemPlace} {r : Reach} {b0 : Nat} {t e : TypeId}
    (ht : Try.prog.underlying t = some (.slice e)) (he : Try.prog.underlying e = some .bool) (hc1 : Try.prog.cellsOf e = 1)
    (hval : Value.okWide Try.prog W r b0 t v) (h : DataW.Trod enc Try.prog W base sp hd t v d ps) :
    ∃ (A : Option Addr) (c : Nat) (l : List Bool), v = .slice A l.length c ∧ Kd.C Kd.bool W A l.length l ∧ l.length ≤ c := by
  obtain ⟨A, len, cap, rfl⟩ := okWide_slice ht hval
  obtain ⟨fuel, hf⟩ := h
  rcases DataW.trod_slice ht hf with ⟨hcs, _⟩ | ⟨a, n, c, elems, rest, f, _, hcs, _, hb, hl, hm, hlen, hel, _, _⟩
  · simp [Value.cells] at hcs
    obtain ⟨rfl, rfl, rfl⟩ := hcs
    exact ⟨none, 0, [], rfl, Kd.C_nil _ _, by simp⟩
  · simp [Value.cells] at hcs
    obtain ⟨rfl, rfl, rfl⟩ := hcs
    have hcell : ∀ i, i < len → W.cell? (a.add i) = some (.bool (truthOf (W.cell? (a.add i)))) := by
      intro i hi
      have h1 := hel i hi
      rw [hc1, Nat.mul_one] at h1
      rw [List.getElem?_eq_getElem (by omega), Option.bind_eq_some_iff] at h1
      obtain ⟨cs', hcs', hy⟩ := h1
      obtain ⟨b, rfl, _⟩ := DataW.trod_bool he hy
      have := cell_of_cells?_one hcs'
      rw [this]; rfl
    have hll : ((List.range len).map fun i => truthOf (W.cell? (a.add i))).length = len := by simp
    refine ⟨some a, cap, (List.range len).map fun i => truthOf (W.cell? (a.add i)), by rw [hll], ?_, by rw [hll]; exact hl⟩
    rw [hll]
    refine ⟨hll, by unfold maxLen at hm; omega, fun _ => ⟨a, rfl, fun i p hi => ⟨[.bool p], rfl, rfl, fun j u hj => ?_⟩⟩⟩
    have hil : i < len := by have := (List.getElem?_eq_some_iff.1 hi).1; simp at this; omega
    match j, hj with
    | 0, hj =>
      simp at hj
      subst hj
      have := hcell i hil
      have hp : truthOf (W.cell? (a.add i)) = p := by
        rw [List.getElem?_map, List.getElem?_range hil] at hi
        simpa using hi
      rw [hp] at this
      have e : i * Kd.bool.sz + 0 = i := by show i * 1 + 0 = i; omega
      rw [e]; exact this
    | j + 1, hj => simp at hj
set_option maxRecDepth 100000 in
theorem open48 {H : Type} {enc : TypeId × Value → H} {W : World} {base : Nat} {sp : Nat → Bool} {hd : Bool} {v : Value} {d : DataW H} {ps : List MemPlace} {r : Reach} {b0 : Nat}
    {ts : List TypeId} {ds : List (DataW H)} {j : Nat} (hsz : (DataW.weightsEach Try.prog ts ds).all (· ≤ reachBytes) = true) (ht : ts[j]? = some 48) (hdd : ds[j]? = some d)
    (hval : Value.okWide Try.prog W r b0 48 v) (h : DataW.Trod enc Try.prog W base sp hd 48 v d ps) :
    ∃ (A : Option Addr) (c : Nat) (l : List Int), v = .slice A l.length c ∧ Kd.C (Kd.int .i64) W A l.length l ∧ l.length ≤ c ∧ (∀ x ∈ l, (Lit.int .i64 x).wf = true) :=
  openints Try.underlying48 Try.underlying3 (by kernel_rfl) hval h
set_option maxRecDepth 100000 in
theorem open62 {H : Type} {enc : TypeId × Value → H} {W : World} {base : Nat} {sp : Nat → Bool} {hd : Bool} {v : Value} {d : DataW H} {ps : List MemPlace} {r : Reach} {b0 : Nat}
    {ts : List TypeId} {ds : List (DataW H)} {j : Nat} (hsz : (DataW.weightsEach Try.prog ts ds).all (· ≤ reachBytes) = true) (ht : ts[j]? = some 62) (hdd : ds[j]? = some d)
    (hval : Value.okWide Try.prog W r b0 62 v) (h : DataW.Trod enc Try.prog W base sp hd 62 v d ps) :
    ∃ (A : Option Addr) (c : Nat) (l : List Bool), v = .slice A l.length c ∧ Kd.C Kd.bool W A l.length l ∧ l.length ≤ c :=
  openbools Try.underlying62 Try.underlying4 (by kernel_rfl) hval h
end Go.Proofs.Ytkglggggmlnleaa.Print
