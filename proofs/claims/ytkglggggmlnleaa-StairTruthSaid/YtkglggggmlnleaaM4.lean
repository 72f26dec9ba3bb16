/- Words shared by the laws of the runs. Plain laws of the runs: a stopped run put in; all turned round. -/
import Derived.Test.YtkglggggmlnleaaSc
import Derived.Test.YtkglggggmlnleaaRu
import Derived.Test.YtkglggggmlnleaaMi
import Derived.Test.YtkglggggmlnleaaHr
import Derived.Test.YtkglggggmlnleaaM1
import Derived.Test.YtkglggggmlnleaaPk
import Derived.Test.YtkglggggmlnleaaMr
namespace Go.Proofs.Ytkglggggmlnleaa.Print
open Go.RowKit Go.Proofs.YtkglggggmlnleaaW.PrintWords Go.Proofs.YtkglggggmlnleaaW.PrintLast Go.Proofs.YtkglggggmlnleaaW.PrintMore
set_option linter.unusedVariables false
set_option linter.unusedSimpArgs false
/-- A row of rows, element by element. -/
theorem cellRow {w : World} {A : Option Addr} {xss : List (List Int)} {n : Nat} (h : Kd.C sl8 w A n xss) (j : Nat) (hj : j < n) (xs : List Int) (hx : xss[j]? = some xs) : ∃ ad A0 c0, A = some ad ∧ w.cell? (ad.add j) = some (.slice A0 xs.length c0) ∧ xs.length ≤ c0 ∧ Kd.C (Kd.int .u8) w A0 xs.length xs := by
  obtain ⟨ad, cs, e, hs, hK, hcell⟩ := ReadsRow.get_ h [] (j : Int) (by omega) (by omega)
  rw [Int.toNat_natCast, List.getD_eq_getElem?_getD, hx] at hK
  obtain ⟨A0, c0, rfl, hl, hC⟩ := hK
  refine ⟨ad, A0, c0, e, ?_, hl, hC⟩
  have := hcell 0 _ rfl
  rw [Int.toNat_natCast] at this
  have e2 : j * sl8.sz + 0 = j := by show j * 1 + 0 = j; omega
  rw [e2] at this
  exact this
theorem RunsOut.ok {L st : Int} {l : List S67} {w : World} {vs vr : Value} (h : RunsOut L st l w vs vr) (h0 : possI L st l = 0) (n : Nat) (hn : l.length = n) : ∃ Al Ar, vs = .slice Al n n ∧ vr = .slice Ar n n ∧
    Kd.C k28 w Al n ((List.range n).map fun i => (⟨(sp (lvAt (hists L st l) i)).1, (sp (lvAt (hists L st l) i)).2⟩ : S28)) ∧ Kd.C sl8 w Ar n ((List.range n).map fun i => rowR (rsAt (hists L st l) i)) := by
  subst hn
  unfold RunsOut at h
  rw [if_pos h0] at h
  obtain ⟨gl, gr, h1, h2, h3, h4⟩ := h
  exact ⟨_, _, h1, h2, h3, h4⟩
theorem stairs_n (L st : Int) (A : Option Addr) (c : Nat) (l : List S43) (w : World) (n : Nat) (hn : l.length = n) (hr : Kd.C k43 w A n l) (hc : n ≤ c) (hl : n < 8796093022208) (xs : List S67) (hx : l.map up = xs) (m : Nat) (hm : xs.length = m) :
    Calls Try.prog 19 #[.agg #[.int .i64 L, .int .i64 st, .slice A n c]] w fun e w' => (∃ A' c', e = .returned (.agg #[.int .i64 L, .int .i64 st, .slice A' m c']) ∧ Aside0 (Kd.C k67 w' A' m xs ∧ m ≤ c')) ∧ Below w.heap.size w w' := by
  subst hn; subst hm; exact stairs_calls L st A c l w hr hc hl xs hx
theorem middle_n (L st : Int) (A : Option Addr) (c : Nat) (l : List S67) (w : World) (n : Nat) (hn : l.length = n) (hr : Kd.C k67 w A n l) (hc : n ≤ c) :
    Calls Try.prog 18 #[.agg #[.int .i64 L, .int .i64 st, .slice A n c]] w fun e w' => e = .returned (.tuple #[.agg #[.int .i64 (midR L st l).1, .int .i64 (midR L st l).2], .int .i64 (midE L st l)]) ∧ Below w.heap.size w w' := by
  subst hn; exact middle_calls L st A c l w hr hc
theorem k43_mkM' {w : World} {base : Nat} {ok ok' : Nat → Prop} {x : S43} {cs : List Value} (h : k43.M w base ok x cs) : k43.M w base ok' x cs := by
  obtain rfl := k43_openM h
  exact k43_mkM _ _ _ x
theorem rowC43 {w : World} {base n c : Nat} {ok : Nat → Prop} {A : Option Addr} {ys : List S43} (h : k43.R 43 w base ok (.slice A n c) ys) (hn : ys.length = n) : Kd.C k43 w A n ys ∧ n ≤ c := by
  obtain ⟨A', c', he, hl, hC⟩ := Kd.R_reads h
  injection he with h1 h2 h3
  subst h1 h3 hn
  exact ⟨hC, hl⟩
theorem cell28 {w : World} {A : Option Addr} {n : Nat} {xs : List S28} (h : Kd.C k28 w A n xs) (j : Nat) (hj : j < n) {a b : Int} (hx : xs[j]? = some ⟨a, b⟩) : ∃ ad, A = some ad ∧ w.cell? (ad.add (j * 2)) = some (.int .i64 a) ∧ w.cell? ⟨(ad.add (j * 2)).block, (ad.add (j * 2)).off + 1, none⟩ = some (.int .i64 b) := by
  obtain ⟨ad, e, g1, g2⟩ := at_T28 h (j : Int) (by omega) (by omega)
  have hrd : rd_T28 xs j = ⟨a, b⟩ := by
    unfold rd_T28
    simp [List.getD_eq_getElem?_getD, hx]
  rw [hrd] at g1 g2
  exact ⟨ad, e, g1, g2⟩
theorem rowR_len (rs : List Int) : (rowR rs).length ≤ 3 := List.length_filter_le _ _
end Go.Proofs.Ytkglggggmlnleaa.Print
namespace Go.Proofs.Ytkglggggmlnleaa.Print
open Go.RowKit Go.Proofs.YtkglggggmlnleaaW.PrintWords Go.Proofs.YtkglggggmlnleaaW.PrintLast Go.Proofs.YtkglggggmlnleaaW.PrintMore
set_option linter.unusedVariables false
set_option linter.unusedSimpArgs false

/-! ### A stopped run is put in -/
/-! ### All turned round -/
end Go.Proofs.Ytkglggggmlnleaa.Print
