/- What the chapter shows: the closed part of each law. -/
import Derived.Test.YtkglggggmlnleaaRk
import Derived.Test.YtkglggggmlnleaaXS1
namespace Go.Proofs.Ytkglggggmlnleaa.Print
open Go.RowKit Go.Proofs.YtkglggggmlnleaaW.PrintWords Go.Proofs.YtkglggggmlnleaaW.PrintLast Go.Proofs.YtkglggggmlnleaaW.PrintMore
set_option linter.unusedVariables false
set_option linter.unusedSimpArgs false

/-- Sorting by putting in, for reckoning. -/
def ins (x : Int) : List Int → List Int
  | [] => [x]
  | y :: r => if x ≤ y then x :: y :: r else y :: ins x r
def isort : List Int → List Int
  | [] => []
  | x :: r => ins x (isort r)
theorem ins_perm (x : Int) : ∀ l, (ins x l).Perm (x :: l)
  | [] => .refl _
  | y :: r => by
    unfold ins
    split
    · exact .refl _
    · exact ((ins_perm x r).cons y).trans (.swap x y r)
theorem isort_perm : ∀ l, (isort l).Perm l
  | [] => .refl _
  | x :: r => (ins_perm x (isort r)).trans ((isort_perm r).cons x)
theorem ins_sorted (x : Int) : ∀ l, l.Pairwise (· ≤ ·) → (ins x l).Pairwise (· ≤ ·)
  | [], _ => by simp [ins]
  | y :: r, h => by
    unfold ins
    split
    · rename_i hxy
      refine List.pairwise_cons.2 ⟨fun z hz => ?_, h⟩
      rcases List.mem_cons.1 hz with rfl | hz
      · exact hxy
      · exact Int.le_trans hxy ((List.pairwise_cons.1 h).1 z hz)
    · rename_i hxy
      refine List.pairwise_cons.2 ⟨fun z hz => ?_, ins_sorted x r (List.pairwise_cons.1 h).2⟩
      rcases List.mem_cons.1 ((ins_perm x r).mem_iff.1 hz) with rfl | hz
      · omega
      · exact (List.pairwise_cons.1 h).1 z hz
theorem isort_sorted : ∀ l, (isort l).Pairwise (· ≤ ·)
  | [] => .nil
  | x :: r => ins_sorted x _ (isort_sorted r)
theorem rising_sorted (l : List Int) : (rising l).Pairwise (· ≤ ·) := by
  have := List.pairwise_mergeSort (le := fun x y : Int => decide (x ≤ y)) (fun a b c h1 h2 => by simp at *; omega) (fun a b => by simp; omega) l
  exact this.imp (fun h => by simpa using h)
theorem sorted_unique {l m : List Int} (hl : l.Pairwise (· ≤ ·)) (hm : m.Pairwise (· ≤ ·)) (hp : l.Perm m) : l = m :=
  List.Perm.eq_of_pairwise (fun a b _ _ h1 h2 => by omega) hl hm hp
theorem rising_eq (l : List Int) : rising l = isort l :=
  sorted_unique (rising_sorted l) (isort_sorted l) ((List.mergeSort_perm l _).trans (isort_perm l).symm)
theorem keyOf_eq (L : Int) (high : Bool) (rank : Int) (h : List (Int × Int)) : keyOf L high rank h = (isort (h.map (limit L high))).getD rank.toNat 0 := by unfold keyOf; rw [rising_eq]
/-- The key, for reckoning. -/
def keyC (L : Int) (high : Bool) (rank : Int) (h : List (Int × Int)) : Int := (isort (h.map (limit L high))).getD rank.toNat 0
theorem keyOf_keyC : keyOf = keyC := by funext L high rank h; exact keyOf_eq L high rank h
def endC (L st : Int) (l : List S67) (k : Int) (high : Bool) : Int :=
  match (hists L st l).foldl (fun o h => match o with | none => some h | some b => if better high (keyC L high k h) (keyC L high k b) then some h else some b) none with
  | some b => keyC L high k b
  | none => 0
theorem endN_C (L st : Int) (l : List S67) (k : Int) (high : Bool) : endN L st l k high = endC L st l k high := by
  unfold endN endC bestOf bestStep
  rw [keyOf_keyC]
  rfl
/-- The staircase of the chapter. -/
def SH : List S67 := [⟨1, 1⟩, ⟨2, 3⟩, ⟨-1, 3⟩, ⟨2, 0⟩]
theorem sh_many : manyI 4 1 SH = 3 ∧ possI 4 1 SH = 0 := by decide +kernel
theorem sh_mid : midR 4 1 SH = (1500, 2000) ∧ midE 4 1 SH = 0 := by decide +kernel
theorem sh_rank0 : rankR 4 1 SH 0 = (0, 2) ∧ askE 4 1 SH 0 = 0 := by unfold rankR; rw [endN_C, endN_C]; decide +kernel
theorem sh_rank3 : rankR 4 1 SH 3 = (2, 4) ∧ askE 4 1 SH 3 = 0 := by unfold rankR; rw [endN_C, endN_C]; decide +kernel
theorem sh_f : tensilelaw04_shaken.f = some (4, 1, SH) := rfl

set_option maxHeartbeats 2000000 in
set_option maxRecDepth 100000 in
theorem awake_calls (w : World) : Calls Try.prog 17 #[] w fun e w' => e = .returned (.bool true) ∧ Below w.heap.size w w' := by
  have hu28 := Try.underlying28
  have HF := Aside0.mk sh_f
  have H1 := Aside0.mk sh_many
  have H2 := Aside0.mk sh_mid
  have H3 := Aside0.mk sh_rank0
  have H4 := Aside0.mk sh_rank3
  generalize SH = sh at HF H1 H2 H3 H4
  go_enter Try.func17, Try.ntmps17
  go_wp2_with fail
  refine (tensilelaw04_shaken.calls 4 1 sh w HF.out).mono ?_
  rintro e w1 ⟨v1, rfl, hr1, hb1⟩
  obtain ⟨A1, c1, rfl, hc1, hC1⟩ := Kd.R_reads hr1
  have HB := Aside0.mk hb1
  have HC := Aside0.mk (And.intro hC1 hc1)
  clear hr1 hc1 hC1 hb1
  go_wp2_with fail
  refine (count_calls 4 1 A1 c1 sh w1 HC.out.1 HC.out.2).mono ?_
  rintro e w2 ⟨rfl, hb2⟩
  rw [H1.out.1, H1.out.2]
  replace HB := Aside0.mk (HB.out.trans (hb2.mono HB.out.size))
  clear hb2
  go_wp2_with fail
  refine (tensilelaw04_shaken.calls 4 1 sh w2 HF.out).mono ?_
  rintro e w3 ⟨v3, rfl, hr3, hb3⟩
  obtain ⟨A3, c3, rfl, hc3, hC3⟩ := Kd.R_reads hr3
  replace HB := Aside0.mk (HB.out.trans (hb3.mono HB.out.size))
  replace HC := Aside0.mk (And.intro hC3 hc3)
  clear hr3 hc3 hC3 hb3
  go_wp2_with fail
  refine (middle_calls 4 1 A3 c3 sh w3 HC.out.1 HC.out.2).mono ?_
  rintro e w4 ⟨rfl, hb4⟩
  rw [H2.out.1, H2.out.2]
  replace HB := Aside0.mk (HB.out.trans (hb4.mono HB.out.size))
  clear hb4
  go_wp2_with fail
  have X4 := Aside0.mk (blk_new w4 (.cells #[.int .i64 1500, .int .i64 2000] 28))
  replace HB := Aside0.mk (HB.out.alloc HB.out.size (.cells #[.int .i64 1500, .int .i64 2000] 28))
  obtain ⟨g4, hg4⟩ : ∃ g4, w4.heap.size = g4 := ⟨_, rfl⟩
  rw [hg4] at X4 ⊢
  clear hg4
  generalize w4.alloc (.cells #[.int .i64 1500, .int .i64 2000] 28) = w4' at X4 HB ⊢
  refine (tensilelaw04_shaken.calls 4 1 sh w4' HF.out).mono ?_
  rintro e w5 ⟨v5, rfl, hr5, hb5⟩
  obtain ⟨A5, c5, rfl, hc5, hC5⟩ := Kd.R_reads hr5
  replace HB := Aside0.mk (HB.out.trans (hb5.mono HB.out.size))
  replace X4 := Aside0.mk (blk_below X4.out hb5)
  replace HC := Aside0.mk (And.intro hC5 hc5)
  clear hr5 hc5 hC5 hb5
  go_wp2_with fail
  refine (rank_calls 4 1 A5 c5 sh 0 w5 HC.out.1 HC.out.2).mono ?_
  rintro e w6 ⟨rfl, hb6⟩
  rw [H3.out.1, H3.out.2]
  replace HB := Aside0.mk (HB.out.trans (hb6.mono HB.out.size))
  replace X4 := Aside0.mk (blk_below X4.out hb6)
  clear hb6
  go_wp2_with fail
  have X6 := Aside0.mk (blk_new w6 (.cells #[.int .i64 0, .int .i64 2] 28))
  replace X4 := Aside0.mk (blk_alloc X4.out (.cells #[.int .i64 0, .int .i64 2] 28))
  replace HB := Aside0.mk (HB.out.alloc HB.out.size (.cells #[.int .i64 0, .int .i64 2] 28))
  obtain ⟨g6, hg6⟩ : ∃ g6, w6.heap.size = g6 := ⟨_, rfl⟩
  rw [hg6] at X6 ⊢
  clear hg6
  generalize w6.alloc (.cells #[.int .i64 0, .int .i64 2] 28) = w6' at X4 X6 HB ⊢
  refine (tensilelaw04_shaken.calls 4 1 sh w6' HF.out).mono ?_
  rintro e w7 ⟨v7, rfl, hr7, hb7⟩
  obtain ⟨A7, c7, rfl, hc7, hC7⟩ := Kd.R_reads hr7
  replace HB := Aside0.mk (HB.out.trans (hb7.mono HB.out.size))
  replace X4 := Aside0.mk (blk_below X4.out hb7)
  replace X6 := Aside0.mk (blk_below X6.out hb7)
  replace HC := Aside0.mk (And.intro hC7 hc7)
  clear hr7 hc7 hC7 hb7
  go_wp2_with fail
  refine (rank_calls 4 1 A7 c7 sh 3 w7 HC.out.1 HC.out.2).mono ?_
  rintro e w8 ⟨rfl, hb8⟩
  rw [H4.out.1, H4.out.2]
  replace HB := Aside0.mk (HB.out.trans (hb8.mono HB.out.size))
  replace X4 := Aside0.mk (blk_below X4.out hb8)
  replace X6 := Aside0.mk (blk_below X6.out hb8)
  clear hb8
  have q0 : w8.cell? ⟨g4, 0, none⟩ = some (.int .i64 1500) := (blk_cell X4.out 0).trans rfl
  have q1 : w8.cell? ⟨g4, 1, none⟩ = some (.int .i64 2000) := (blk_cell X4.out 1).trans rfl
  have q2 : w8.cell? ⟨g6, 0, none⟩ = some (.int .i64 0) := (blk_cell X6.out 0).trans rfl
  have q3 : w8.cell? ⟨g6, 1, none⟩ = some (.int .i64 2) := (blk_cell X6.out 1).trans rfl
  have q4 := blk_lt X4.out
  have q5 := blk_lt X6.out
  go_wp2_with fail
  go_ret
  exact ⟨rfl, HB.out.alloc HB.out.size _⟩
end Go.Proofs.Ytkglggggmlnleaa.Print
