/- Sorting, and the limit of a rank. -/
import Derived.Test.YtkglggggmlnleaaLi
import Derived.Ground.NamesProg
import Derived.Shelf.Lay
import Derived.Shelf.Slices.In.SortNone
import Derived.Shelf.Slices.In.SortAlone
import Derived.Shelf.Slices.In.Clone
import Derived.Lib.SortBridge
import Derived.Sort.EveryDepth
namespace Go.Proofs
open Go.Shelf
shelf_lay Lays.n189 Nm 189 at Try as Try.laysSort
shelf_lay Lays2.n15 Nm2 15 at Try as Try.laysClone
end Go.Proofs
namespace Go.Proofs.Ytkglggggmlnleaa.Print
open Go.RowKit Go.Sort Go.Shelf Go.Proofs.YtkglggggmlnleaaW.PrintWords Go.Proofs.YtkglggggmlnleaaW.PrintLast Go.Proofs.YtkglggggmlnleaaW.PrintMore
set_option linter.unusedVariables false
set_option linter.unusedSimpArgs false

/-- In rising order. -/
def rising (l : List Int) : List Int := l.mergeSort fun x y => decide (x ≤ y)
theorem rising_length (l : List Int) : (rising l).length = l.length := List.length_mergeSort l
theorem clone_calls (b off c : Nat) (zs : List Int) (w : World) (h14 : zs.length ≤ 1000) (hc : ∀ j, j < zs.length → w.cell? ⟨b, off + j, none⟩ = some (.int .i64 (zs.getD j 0))) :
    Calls Try.prog 85 #[.slice (some ⟨b, off, none⟩) zs.length c] w fun e w' => ∃ v', e = .returned v' ∧ Kd.R (Kd.int .i64) 3 w' w.heap.size (fun _ => True) v' zs ∧ v' ≠ .slice none 0 0 ∧ Below w.heap.size w w' := by
  refine (calls_of_every_depth fun D => AnyS.slices_Clone_int_in Try.laysClone D b off zs.length c zs w (Nat.le_refl _) (by omega) hc).mono ?_
  rintro e w' ⟨v', rfl, h1, h2, h3⟩
  rw [List.take_length] at h1
  exact ⟨v', rfl, Kd.R_of_own h1 (fun _ _ => trivial), h2, h3⟩
theorem sort_calls (g c : Nat) (zs : List Int) (w : World) (h14 : zs.length ≤ 1000) (hg : g < w.heap.size) (hc : ∀ j, j < zs.length → w.cell? ⟨g, j, none⟩ = some (.int .i64 (zs.getD j 0)) ∧ w.frozen? ⟨g, j, none⟩ = false) :
    Calls Try.prog 86 #[.slice (some ⟨g, 0, none⟩) zs.length c] w fun e w' => e = .returned (.tuple #[]) ∧ (∀ j, j < zs.length → w'.cell? ⟨g, j, none⟩ = some (.int .i64 ((rising zs).getD j 0))) ∧ Ch (· = g) w w' := by
  have hc0 : ∀ j, j < zs.length → w.cell? ⟨g, 0 + j, none⟩ = some (.int .i64 (zs.getD j 0)) := fun j hj => by rw [Nat.zero_add]; exact (hc j hj).1
  have hH := Lib.holds_of_ints (w := w) (b := g) (off := 0) (n := zs.length) (zs := zs) (Nat.le_refl _) hc0 (fun j hj => by rw [Nat.zero_add]; exact (hc j hj).2)
  rw [List.take_length] at hH
  refine (calls_of_every_depth fun D => AnyS.slices_Sort_int_alone Try.laysSort D g 0 c zs w hH hg (by omega)).mono ?_
  rintro e w' ⟨rfl, q, os, rfl⟩
  rw [Lib.sorted_world _ w g 0 q _ _ os hH (by simp)]
  refine ⟨rfl, ?_, ?_⟩
  · intro j hj
    have := Lib.cells_sorted_ints (W := w) (b := g) (off := 0) (n := zs.length) (q := q) (zs := zs) (ys := rising zs) (os := os) (Nat.le_refl _) (rising_length zs) hc0 j (by simp [rising_length]; exact hj)
    rw [Nat.zero_add, List.drop_length, List.append_nil] at this
    exact this
  · have hs : ∀ (vs : List Value) (o : Nat) (W : World), Ch (· = g) w W → Ch (· = g) w (W.setCells g o vs) := by
      intro vs
      induction vs with
      | nil => intro o W h; exact h
      | cons v r ih => intro o W h; exact ih (o + 1) _ (h.setCell _ _ (fun _ => rfl))
    have h1 := hs (List.map (Value.int .i64) (zs.mergeSort fun x y => decide (x ≤ y))) 0 (w.drewN q) ((Ch.refl _ w).drewN q)
    refine h1.trans ⟨rfl, rfl, rfl, by simp [grow], fun i hi _ => ?_⟩
    exact heap_grow_old _ os hi

set_option maxHeartbeats 2000000 in
set_option maxRecDepth 100000 in
theorem ranked_calls (v : Value) (l : List Int) (rank : Int) (w : World) (base : Nat) (ok : Nat → Prop) (hr : Kd.R (Kd.int .i64) 3 w base ok v l) (h0 : 0 ≤ rank) (h1 : rank < l.length) (h14 : l.length ≤ 14) :
    Calls Try.prog 73 #[v, .int .i64 rank] w fun e w' => e = .returned (.int .i64 ((rising l).getD rank.toNat 0)) ∧ Below w.heap.size w w' := by
  obtain ⟨g, c, rfl, hg1, hg2, cells, hcells⟩ := Kd.R_form hr (by omega)
  have hcl : ∀ j, j < l.length → w.cell? ⟨g, 0 + j, none⟩ = some (.int .i64 (l.getD j 0)) := fun j hj => by
    have := (Kd.R_celln (0 : Int) hr j (by omega) (by omega)).1
    rw [Nat.zero_add]
    simpa [rdOf] using this
  go_enter Try.func73, Try.ntmps73
  go_wp2_with fail
  refine (clone_calls g 0 c l w (by omega) hcl).mono ?_
  rintro e w2 ⟨v2, rfl, hr2, hnn, hb2⟩
  obtain ⟨g2, c2, rfl, hg3, hg4, cells2, hcells2⟩ := Kd.R_form hr2 (by omega)
  have hcl2 : ∀ j, j < l.length → w2.cell? ⟨g2, j, none⟩ = some (.int .i64 (l.getD j 0)) ∧ w2.frozen? ⟨g2, j, none⟩ = false := fun j hj => by
    have := Kd.R_celln (0 : Int) hr2 j (by omega) (by omega)
    simpa [rdOf] using this
  have HS := Aside0.mk (sort_calls g2 c2 l w2 (by omega) hg4 hcl2)
  have HB2 := Aside0.mk hb2
  clear hr2 hnn hb2 hcells2 hcl2 hcl hr hcells
  go_wp2_with fail
  refine HS.out.mono ?_
  rintro e w3 ⟨rfl, hs3, hch3⟩
  have q := hs3 rank.toNat (by omega)
  have HC := Aside0.mk hch3
  clear hs3 hch3
  go_wp2_with fail
  go_ret
  exact ⟨rfl, HB2.out.trans (HC.out.below (by have := HB2.out.size; omega) (fun i hi e => by have e : i = g2 := e; omega))⟩
end Go.Proofs.Ytkglggggmlnleaa.Print
