/- A row of rows, each in memory of its own: what a write to one of them does. Rows of rows and rows of spans, read and written. Words for stair.Runs. -/
import Derived.Test.YtkglggggmlnleaaM1
import Derived.Test.YtkglggggmlnleaaHr
import Derived.Test.YtkglggggmlnleaaSo
import Derived.Test.YtkglggggmlnleaaM3
import Derived.Test.YtkglggggmlnleaaMi
import Derived.Test.YtkglggggmlnleaaHm
namespace Go.Proofs.Ytkglggggmlnleaa.Print
open Go.RowKit Go.Proofs.YtkglggggmlnleaaW.PrintWords Go.Proofs.YtkglggggmlnleaaW.PrintLast Go.Proofs.YtkglggggmlnleaaW.PrintMore
set_option linter.unusedVariables false
set_option linter.unusedSimpArgs false

/-- A row of rows of small numbers, each row in memory of its own: rows: each row's slice and what it holds. -/
structure Grid (base : Nat) (w : World) (go : Nat) (rows : List (Value × List Int)) : Prop where
  blk : w.heap[go]? = some (.cells (rows.map (·.1)).toArray 41 (0, 0))
  own : ∀ (i : Nat) (v : Value) (xs : List Int), rows[i]? = some (v, xs) → Kd.R (Kd.int .u8) 5 w base (fun _ => True) v xs
  sep : ∀ (i j : Nat) (v : Value) (xs : List Int) (u : Value) (ys : List Int), rows[i]? = some (v, xs) → rows[j]? = some (u, ys) → i ≠ j → ∀ q, v.ownBlock = some q → some q ≠ u.ownBlock
theorem R_int_far {k : IntKind} {e : Nat} {w : World} {base : Nat} {ok : Nat → Prop} {v : Value} {xs : List Int} {g t : Nat} {cells : Array Value} (h : Kd.R (Kd.int k) e w base ok v xs) (hb : w.heap[g]? = some (.cells cells t (0, 0))) (ht : t ≠ e) (i : Nat) (u : Value) : Kd.R (Kd.int k) e (w.setCell ⟨g, i, none⟩ u) base (fun _ => True) v xs :=
  Kd.R_mono (Kd.R_far (ok := fun q => v.ownBlock = some q) (p := ⟨g, i, none⟩) ⟨fun _ hk => hk, h.2.imp_ (fun _ _ hp => hp)⟩ (fun q hq he => R_ne h hb ht (by rw [hq, he])) u) (fun _ _ => trivial)
theorem Grid.below {base go : Nat} {w w1 : World} {rows : List (Value × List Int)} (h : Grid base w go rows) (hb : Below w.heap.size w w1) : Grid base w1 go rows :=
  ⟨blk_below h.blk hb, fun i v xs hi => Kd.R_below (h.own i v xs hi) hb, h.sep⟩
/-- A store into a block that is no row, nor the rows' own. -/
theorem Grid.far {base go : Nat} {w : World} {rows : List (Value × List Int)} (h : Grid base w go rows) {g t : Nat} {cells : Array Value} (hb : w.heap[g]? = some (.cells cells t (0, 0))) (h5 : t ≠ 5) (h41 : t ≠ 41) (i : Nat) (u : Value) : Grid base (w.setCell ⟨g, i, none⟩ u) go rows :=
  ⟨(Below.heap_setCell w ⟨g, i, none⟩ u go (fun e => blk_ne h.blk hb (Ne.symm h41) e)).trans h.blk, fun j v xs hj => R_int_far (h.own j v xs hj) hb h5 i u, h.sep⟩
/-- The slice of a row. -/
theorem Grid.cell {base go : Nat} {w : World} {rows : List (Value × List Int)} (h : Grid base w go rows) (i : Nat) {v : Value} {xs : List Int} (hi : rows[i]? = some (v, xs)) : w.cell? ⟨go, i, none⟩ = some v := by
  refine (blk_cell h.blk i).trans ?_
  simp [hi]
/-- A row is written anew, in its place or elsewhere, and its slice is put back. -/
theorem Grid.put {base go : Nat} {w w1 : World} {rows : List (Value × List Int)} (h : Grid base w go rows) (i : Nat) {v v1 : Value} {xs xs1 : List Int} (hi : rows[i]? = some (v, xs)) (hg : w.grownBy w1 v.ownBlock) (hR : Kd.R (Kd.int .u8) 5 w1 base (fun _ => True) v1 xs1) (hat : v1.ownBlock = v.ownBlock ∨ ∃ b, v1.ownBlock = some b ∧ w.heap.size ≤ b) : Grid base (w1.setCell ⟨go, i, none⟩ v1) go (rows.set i (v1, xs1)) := by
  have hlt : i < rows.length := (List.getElem?_eq_some_iff.1 hi).1
  have hb1 : w1.heap[go]? = some (.cells (rows.map (·.1)).toArray 41 (0, 0)) := blk_grown h.blk hg (R_ne (h.own i v xs hi) h.blk (by decide))
  have hother : ∀ (j : Nat) (u : Value) (ys : List Int), rows[j]? = some (u, ys) → j ≠ i → Kd.R (Kd.int .u8) 5 w1 base (fun _ => True) u ys := fun j u ys hj hne => R_int_grown (h.own j u ys hj) hg (h.sep j i u ys v xs hj hi hne)
  have hv1 : ∀ (j : Nat) (u : Value) (ys : List Int), rows[j]? = some (u, ys) → j ≠ i → ∀ q, v1.ownBlock = some q → some q ≠ u.ownBlock := by
    intro j u ys hj hne q hq
    rcases hat with hat | hat
    · exact h.sep i j v xs u ys hi hj (Ne.symm hne) q (hat ▸ hq)
    · exact new_apart (h.own j u ys hj) hat q hq
  have hset : ∀ (j : Nat) (u : Value) (ys : List Int), (rows.set i (v1, xs1))[j]? = some (u, ys) → (j = i ∧ u = v1 ∧ ys = xs1) ∨ (j ≠ i ∧ rows[j]? = some (u, ys)) := by
    intro j u ys hj
    by_cases e : j = i
    · subst e
      rw [List.getElem?_set_self hlt] at hj
      injection hj with hj
      injection hj with h1 h2
      exact .inl ⟨rfl, h1.symm, h2.symm⟩
    · rw [List.getElem?_set_ne (Ne.symm e)] at hj
      exact .inr ⟨e, hj⟩
  refine ⟨blk_put hb1 i v1 (by simp [List.map_set]), ?_, ?_⟩
  · intro j u ys hj
    rcases hset j u ys hj with ⟨rfl, rfl, rfl⟩ | ⟨hne, kj⟩
    · exact R_int_far hR hb1 (by decide) _ _
    · exact R_int_far (hother j u ys kj hne) hb1 (by decide) _ _
  · intro a b u ys u2 ys2 ha hb hab q hq
    rcases hset a u ys ha with ⟨rfl, rfl, rfl⟩ | ⟨hna, ka⟩
    · rcases hset b u2 ys2 hb with ⟨rfl, rfl, rfl⟩ | ⟨hnb, kb⟩
      · exact absurd rfl hab
      · exact hv1 b u2 ys2 kb hnb q hq
    · rcases hset b u2 ys2 hb with ⟨rfl, rfl, rfl⟩ | ⟨hnb, kb⟩
      · intro e
        exact hv1 a u ys ka hna q e.symm hq.symm
      · exact h.sep a b u ys u2 ys2 ka kb hab q hq
/-- A row is ordered in its place. -/
theorem Grid.sort {base go : Nat} {w w1 : World} {rows : List (Value × List Int)} (h : Grid base w go rows) (i g n c : Nat) {xs xs1 : List Int} (hi : rows[i]? = some (.slice (some ⟨g, 0, none⟩) n c, xs)) (hc : Ch (fun k => k = g) w w1) (hR : Kd.R (Kd.int .u8) 5 w1 base (fun _ => True) (.slice (some ⟨g, 0, none⟩) n c) xs1) : Grid base w1 go (rows.set i (.slice (some ⟨g, 0, none⟩) n c, xs1)) := by
  have hlt : i < rows.length := (List.getElem?_eq_some_iff.1 hi).1
  have hob : (Value.slice (some ⟨g, 0, none⟩) n c).ownBlock = some g := by simp [Value.ownBlock]
  have hrow := h.own i _ xs hi
  have hgo : go ≠ g := fun e => R_ne hrow h.blk (by decide) (by rw [hob, e])
  have hset : ∀ (j : Nat) (u : Value) (ys : List Int), (rows.set i (.slice (some ⟨g, 0, none⟩) n c, xs1))[j]? = some (u, ys) → (j = i ∧ u = .slice (some ⟨g, 0, none⟩) n c ∧ ys = xs1) ∨ (j ≠ i ∧ rows[j]? = some (u, ys)) := by
    intro j u ys hj
    by_cases e : j = i
    · subst e
      rw [List.getElem?_set_self hlt] at hj
      injection hj with hj
      injection hj with h1 h2
      exact .inl ⟨rfl, h1.symm, h2.symm⟩
    · rw [List.getElem?_set_ne (Ne.symm e)] at hj
      exact .inr ⟨e, hj⟩
  refine ⟨?_, ?_, ?_⟩
  · have e : (rows.set i (.slice (some ⟨g, 0, none⟩) n c, xs1)).map (·.1) = rows.map (·.1) := by
      rw [List.map_set]
      refine List.ext_getElem? fun j => ?_
      by_cases e : i = j
      · subst e
        rw [List.getElem?_set_self (by simpa using hlt)]
        simp [hi]
      · rw [List.getElem?_set_ne e]
    rw [e]
    exact hc.heap h.blk hgo
  · intro j u ys hj
    rcases hset j u ys hj with ⟨rfl, rfl, rfl⟩ | ⟨hne, kj⟩
    · exact hR
    · refine Kd.R_mono (Kd.R_step (ok := fun q => u.ownBlock = some q) ⟨fun _ hk => hk, (h.own j u ys kj).2.imp_ (fun _ _ hp => hp)⟩ (fun q hq hlt2 => hc.block q hlt2 ?_)) (fun _ _ => trivial)
      rintro rfl
      exact h.sep j i u ys _ xs kj hi hne q hq (by rw [hob])
  · intro a b u ys u2 ys2 ha hb hab q hq
    rcases hset a u ys ha with ⟨rfl, rfl, rfl⟩ | ⟨hna, ka⟩
    · rcases hset b u2 ys2 hb with ⟨rfl, rfl, rfl⟩ | ⟨hnb, kb⟩
      · exact absurd rfl hab
      · exact h.sep _ b _ xs u2 ys2 hi kb hab q hq
    · rcases hset b u2 ys2 hb with ⟨rfl, rfl, rfl⟩ | ⟨hnb, kb⟩
      · exact h.sep a _ u ys _ xs ka hi hab q hq
      · exact h.sep a b u ys u2 ys2 ka kb hab q hq
end Go.Proofs.Ytkglggggmlnleaa.Print
namespace Go.Proofs.Ytkglggggmlnleaa.Print
open Go.RowKit Go.Proofs.YtkglggggmlnleaaW.PrintWords Go.Proofs.YtkglggggmlnleaaW.PrintLast Go.Proofs.YtkglggggmlnleaaW.PrintMore
set_option linter.unusedVariables false
set_option linter.unusedSimpArgs false

/-- The grid, read. -/
theorem Grid.reads {base go : Nat} {w : World} {rows : List (Value × List Int)} (h : Grid base w go rows) (hm : rows.length ≤ 1000) : Kd.C sl8 w (some ⟨go, 0, none⟩) rows.length (rows.map (·.2)) := by
  refine ⟨by simp, by omega, fun _ => ⟨_, rfl, fun j p hj => ?_⟩⟩
  rw [List.getElem?_map] at hj
  cases e : rows[j]? with
  | none => rw [e] at hj; simp at hj
  | some q =>
    obtain ⟨v, xs⟩ := q
    rw [e] at hj
    have hp : xs = p := by simpa using hj
    subst hp
    obtain ⟨A, c, rfl, h2, h3⟩ := Kd.R_reads (h.own j v xs e)
    refine ⟨[.slice A xs.length c], rfl, ⟨A, c, rfl, h2, h3⟩, fun i u hi => ?_⟩
    match i, hi with
    | 0, hi =>
      have hi : Value.slice A xs.length c = u := by simpa using hi
      subst hi
      have := h.cell j e
      have e2 : ((⟨go, 0, none⟩ : Addr).add (j * sl8.sz + 0)) = ⟨go, j, none⟩ := by
        rw [show j * sl8.sz + 0 = j from by show j * 1 + 0 = j; omega]; simp [Addr.add]; intro h; omega
      rw [e2]; exact this
    | i + 1, hi => simp at hi
/-- The cells of a row of spans. -/
def spanCells : List (Int × Int) → List Value
  | [] => []
  | p :: ps => .int .i64 p.1 :: .int .i64 p.2 :: spanCells ps
theorem spanCells_0 : ∀ (ps : List (Int × Int)) (i : Nat) (p : Int × Int), ps[i]? = some p → (spanCells ps)[i * 2]? = some (.int .i64 p.1)
  | [], i, p, h => by simp at h
  | q :: ps, 0, p, h => by simp at h; subst h; rfl
  | q :: ps, i + 1, p, h => by
    rw [show (i + 1) * 2 = i * 2 + 1 + 1 by omega]
    exact spanCells_0 ps i p (by simpa using h)
theorem spanCells_1 : ∀ (ps : List (Int × Int)) (i : Nat) (p : Int × Int), ps[i]? = some p → (spanCells ps)[i * 2 + 1]? = some (.int .i64 p.2)
  | [], i, p, h => by simp at h
  | q :: ps, 0, p, h => by simp at h; subst h; rfl
  | q :: ps, i + 1, p, h => by
    rw [show (i + 1) * 2 + 1 = i * 2 + 1 + 1 + 1 by omega]
    exact spanCells_1 ps i p (by simpa using h)
theorem spanCells_set : ∀ (ps : List (Int × Int)) (i : Nat) (a b : Int), ((spanCells ps).set (i * 2) (.int .i64 a)).set (i * 2 + 1) (.int .i64 b) = spanCells (ps.set i (a, b))
  | [], i, a, b => by simp [spanCells]
  | q :: ps, 0, a, b => by simp [spanCells]
  | q :: ps, i + 1, a, b => by
    rw [show (i + 1) * 2 + 1 = i * 2 + 1 + 1 + 1 by omega, show (i + 1) * 2 = i * 2 + 1 + 1 by omega]
    simp only [spanCells, List.set_cons_succ]
    rw [spanCells_set ps i a b]
theorem spanCells_zero (n : Nat) : spanCells (List.replicate n (0, 0)) = List.replicate (2 * n) (.int .i64 0) := by
  induction n with
  | zero => rfl
  | succ n ih => rw [List.replicate_succ, show 2 * (n + 1) = 2 * n + 1 + 1 by omega, List.replicate_succ, List.replicate_succ, ← ih]; rfl
/-- A block of spans: a span is written. -/
theorem span_put {w : World} {g : Nat} {ps : List (Int × Int)} (h : w.heap[g]? = some (.cells (spanCells ps).toArray 28 (0, 0))) (i : Nat) (a b : Int) : ((w.setCell ⟨g, i * 2, none⟩ (.int .i64 a)).setCell ⟨g, i * 2 + 1, none⟩ (.int .i64 b)).heap[g]? = some (.cells (spanCells (ps.set i (a, b))).toArray 28 (0, 0)) := by
  refine blk_put (blk_put h (i * 2) (.int .i64 a) rfl) (i * 2 + 1) (.int .i64 b) ?_
  rw [← spanCells_set ps i a b]
  simp
theorem span_cell {w : World} {g : Nat} {ps : List (Int × Int)} (h : w.heap[g]? = some (.cells (spanCells ps).toArray 28 (0, 0))) (i : Nat) (p : Int × Int) (hi : ps[i]? = some p) : w.cell? ⟨g, i * 2, none⟩ = some (.int .i64 p.1) ∧ w.cell? ⟨g, i * 2 + 1, none⟩ = some (.int .i64 p.2) :=
  ⟨(blk_cell h (i * 2)).trans (by simpa using spanCells_0 ps i p hi), (blk_cell h (i * 2 + 1)).trans (by simpa using spanCells_1 ps i p hi)⟩
/-- The spans, read. -/
theorem span_reads {w : World} {g : Nat} {ps : List (Int × Int)} (h : w.heap[g]? = some (.cells (spanCells ps).toArray 28 (0, 0))) (hm : ps.length ≤ 1000) : Kd.C k28 w (some ⟨g, 0, none⟩) ps.length (ps.map fun p => (⟨p.1, p.2⟩ : S28)) := by
  refine ⟨by simp, by omega, fun _ => ⟨_, rfl, fun j q hj => ?_⟩⟩
  rw [List.getElem?_map] at hj
  cases e : ps[j]? with
  | none => rw [e] at hj; simp at hj
  | some p =>
    rw [e] at hj
    have hp : (⟨p.1, p.2⟩ : S28) = q := by simpa using hj
    subst hp
    obtain ⟨c0, c1⟩ := span_cell h j p e
    refine ⟨[.int .i64 p.1, .int .i64 p.2], rfl, k28_mk w ⟨p.1, p.2⟩, fun i u hi => ?_⟩
    match i, hi with
    | 0, hi =>
      have hi : Value.int .i64 p.1 = u := by simpa using hi
      subst hi
      have e2 : ((⟨g, 0, none⟩ : Addr).add (j * k28.sz + 0)) = ⟨g, j * 2, none⟩ := by
        rw [show j * k28.sz + 0 = j * 2 from by show j * 2 + 0 = j * 2; omega]; simp [Addr.add]; intro h; omega
      rw [e2]; exact c0
    | 1, hi =>
      have hi : Value.int .i64 p.2 = u := by simpa using hi
      subst hi
      have e2 : ((⟨g, 0, none⟩ : Addr).add (j * k28.sz + 1)) = ⟨g, j * 2 + 1, none⟩ := by
        rw [show j * k28.sz + 1 = j * 2 + 1 from rfl]; simp [Addr.add]
      rw [e2]; exact c1
    | i + 2, hi => simp at hi
end Go.Proofs.Ytkglggggmlnleaa.Print
namespace Go.Proofs.Ytkglggggmlnleaa.Print
open Go.RowKit Go.Proofs.YtkglggggmlnleaaW.PrintWords Go.Proofs.YtkglggggmlnleaaW.PrintLast Go.Proofs.YtkglggggmlnleaaW.PrintMore
set_option linter.unusedVariables false
set_option linter.unusedSimpArgs false

/-- Up to j the new one, from there on the old one. -/
def mix {α : Type} (f g : Nat → α) (n j : Nat) : List α := (List.range n).map fun i => if i < j then g i else f i
section
variable {α : Type} (f g : Nat → α) (n : Nat)
theorem mix_len (j : Nat) : (mix f g n j).length = n := by simp [mix]
theorem mix_0 : mix f g n 0 = (List.range n).map f := by simp [mix]
theorem mix_n : mix f g n n = (List.range n).map g := by
  unfold mix
  refine List.map_congr_left fun i hi => ?_
  rw [if_pos (by simpa using hi)]
theorem mix_at (j : Nat) (hj : j < n) : (mix f g n j)[j]? = some (f j) := by
  unfold mix
  rw [List.getElem?_map, List.getElem?_range hj]
  simp
theorem mix_set (j : Nat) (hj : j < n) : (mix f g n j).set j (g j) = mix f g n (j + 1) := by
  unfold mix
  refine List.ext_getElem? fun i => ?_
  by_cases e : j = i
  · subst e
    rw [List.getElem?_set_self (by simpa using hj), List.getElem?_map, List.getElem?_range hj]
    simp
  · rw [List.getElem?_set_ne e, List.getElem?_map, List.getElem?_map]
    by_cases hi : i < n
    · rw [List.getElem?_range hi]
      simp only [Option.map_some]
      congr 1
      by_cases h : i < j
      · rw [if_pos h, if_pos (by omega)]
      · rw [if_neg h, if_neg (by omega)]
    · rw [List.getElem?_eq_none (by simpa using hi)]; rfl
end
theorem lvAt_snoc (pre : List (List (Int × Int))) (x : List (Int × Int)) (i : Nat) : lvAt (pre ++ [x]) i = lvAt pre i ++ [(x.getD i (0, 0)).2] := by simp [lvAt]
theorem rsAt_snoc (pre : List (List (Int × Int))) (x : List (Int × Int)) (i : Nat) : rsAt (pre ++ [x]) i = rsAt pre i ++ [(x.getD i (0, 0)).1] := by simp [rsAt]
/-- What the span becomes: first, it is that of the level alone. -/
theorem sp_more (pre : List (List (Int × Int))) (x : List (Int × Int)) (i : Nat) (m : Int) (hm : (x.getD i (0, 0)).2 = m) (p : Int × Int) (hp : p = if pre = [] then (m, m) else sp (lvAt pre i)) : sp (lvAt (pre ++ [x]) i) = (min p.1 m, max p.2 m) := by
  rw [lvAt_snoc, hm]
  by_cases h : pre = []
  · subst h
    rw [if_pos rfl] at hp
    subst hp
    show sp [m] = _
    rw [sp_one]
    exact Prod.ext (by simp) (by simp)
  · rw [if_neg h] at hp
    subst hp
    exact sp_snoc (by simpa [lvAt] using h) m
def rowsA (pre : List (List (Int × Int))) (i : Nat) : List Int := (rsAt pre i).foldl addR []
theorem rowsA_snoc (pre : List (List (Int × Int))) (x : List (Int × Int)) (i : Nat) (r : Int) (hr : (x.getD i (0, 0)).1 = r) : rowsA (pre ++ [x]) i = if r ∈ rowsA pre i then rowsA pre i else rowsA pre i ++ [r] := by
  unfold rowsA
  rw [rsAt_snoc, List.foldl_append, hr]
  rfl
/-- The memory of the call: the two variables, the spans, the rows, first. -/
structure RunsS (bL bR bf gl gr base n : Nat) (first : Bool) (ps : List (Int × Int)) (rsl : List (List Int)) (W : World) : Prop where
  sp : W.heap[gl]? = some (.cells (spanCells ps).toArray 28 (0, 0))
  gd : ∃ rows, Grid base W gr rows ∧ rows.map (·.2) = rsl
  ft : W.heap[bf]? = some (.cells #[.bool first] 4 (0, 0))
  vL : W.heap[bL]? = some (.cells #[.slice (some ⟨gl, 0, none⟩) n n] 69 (0, 0))
  vR : W.heap[bR]? = some (.cells #[.slice (some ⟨gr, 0, none⟩) n n] 37 (0, 0))
section
variable {bL bR bf gl gr base n : Nat} {first : Bool} {ps : List (Int × Int)} {rsl : List (List Int)} {W W' : World}
theorem RunsS.below (h : RunsS bL bR bf gl gr base n first ps rsl W) (hb : Below W.heap.size W W') : RunsS bL bR bf gl gr base n first ps rsl W' := by
  obtain ⟨rows, hg, hm⟩ := h.gd
  exact ⟨blk_below h.sp hb, ⟨rows, hg.below hb, hm⟩, blk_below h.ft hb, blk_below h.vL hb, blk_below h.vR hb⟩
/-- A change that leaves all that was there, but for the blocks of T, none of which is one of these nor a row. -/
theorem RunsS.kept {T : Nat → Obj → Prop} (h : RunsS bL bR bf gl gr base n first ps rsl W) (hk : ChT T W W') (h1 : ∀ o, ¬ T gl o) (h2 : ∀ o, ¬ T gr o) (h3 : ∀ o, ¬ T bf o) (h4 : ∀ o, ¬ T bL o) (h5 : ∀ o, ¬ T bR o) (h6 : ∀ b cells, base ≤ b → ¬ T b (.cells cells 5 (0, 0))) : RunsS bL bR bf gl gr base n first ps rsl W' := by
  obtain ⟨rows, hg, hm⟩ := h.gd
  refine ⟨hk.heap h.sp (h1 _), ⟨rows, ⟨hk.heap hg.blk (h2 _), fun i v xs hi => ?_, hg.sep⟩, hm⟩, hk.heap h.ft (h3 _), hk.heap h.vL (h4 _), hk.heap h.vR (h5 _)⟩
  have hR := hg.own i v xs hi
  refine Kd.R_mono (Kd.R_step (ok := fun q => v.ownBlock = some q) ⟨fun _ hk => hk, hR.2.imp_ (fun _ _ hp => hp)⟩ (fun q hq hlt => ?_)) (fun _ _ => trivial)
  obtain ⟨inner, ho, _⟩ := hR.2
  obtain ⟨cells, hc⟩ := own_typed ho q hq
  exact (hk.heap hc (h6 _ _ ((Kd.R_bound hR).1 q hq).2.1)).trans hc.symm
/-- The blocks are five. -/
theorem RunsS.apart (h : RunsS bL bR bf gl gr base n first ps rsl W) : gl ≠ gr ∧ gl ≠ bf ∧ gl ≠ bL ∧ gl ≠ bR ∧ gr ≠ bf ∧ gr ≠ bL ∧ gr ≠ bR ∧ bf ≠ bL ∧ bf ≠ bR ∧ bL ≠ bR := by
  obtain ⟨rows, hg, hm⟩ := h.gd
  exact ⟨blk_ne h.sp hg.blk (by decide), blk_ne h.sp h.ft (by decide), blk_ne h.sp h.vL (by decide), blk_ne h.sp h.vR (by decide), blk_ne hg.blk h.ft (by decide), blk_ne hg.blk h.vL (by decide), blk_ne hg.blk h.vR (by decide), blk_ne h.ft h.vL (by decide), blk_ne h.ft h.vR (by decide), blk_ne h.vL h.vR (by decide)⟩
/-- A span is written. -/
theorem RunsS.span (h : RunsS bL bR bf gl gr base n first ps rsl W) (i : Nat) (a b : Int) : RunsS bL bR bf gl gr base n first (ps.set i (a, b)) rsl ((W.setCell ⟨gl, i * 2, none⟩ (.int .i64 a)).setCell ⟨gl, i * 2 + 1, none⟩ (.int .i64 b)) := by
  obtain ⟨rows, hg, hm⟩ := h.gd
  obtain ⟨a1, a2, a3, a4, _⟩ := h.apart
  refine ⟨span_put h.sp i a b, ⟨rows, (hg.far h.sp (by decide) (by decide) _ _).far (blk_put h.sp _ _ rfl) (by decide) (by decide) _ _, hm⟩, ?_, ?_, ?_⟩
  · exact blk_far (blk_far h.ft (Ne.symm a2) _) (Ne.symm a2) _
  · exact blk_far (blk_far h.vL (Ne.symm a3) _) (Ne.symm a3) _
  · exact blk_far (blk_far h.vR (Ne.symm a4) _) (Ne.symm a4) _
theorem RunsS.firstly (h : RunsS bL bR bf gl gr base n first ps rsl W) (f2 : Bool) : RunsS bL bR bf gl gr base n f2 ps rsl (W.setCell ⟨bf, 0, none⟩ (.bool f2)) := by
  obtain ⟨rows, hg, hm⟩ := h.gd
  obtain ⟨a1, a2, a3, a4, a5, a6, a7, a8, a9, a10⟩ := h.apart
  exact ⟨blk_far h.sp a2 _, ⟨rows, hg.far h.ft (by decide) (by decide) _ _, hm⟩, blk_put h.ft 0 _ rfl, blk_far h.vL (Ne.symm a8) _, blk_far h.vR (Ne.symm a9) _⟩
theorem RunsS.sameL (h : RunsS bL bR bf gl gr base n first ps rsl W) : RunsS bL bR bf gl gr base n first ps rsl (W.setCell ⟨bL, 0, none⟩ (.slice (some ⟨gl, 0, none⟩) n n)) := by
  obtain ⟨rows, hg, hm⟩ := h.gd
  obtain ⟨a1, a2, a3, a4, a5, a6, a7, a8, a9, a10⟩ := h.apart
  exact ⟨blk_far h.sp a3 _, ⟨rows, hg.far h.vL (by decide) (by decide) _ _, hm⟩, blk_far h.ft a8 _, blk_put h.vL 0 _ rfl, blk_far h.vR (Ne.symm a10) _⟩
theorem RunsS.sameR (h : RunsS bL bR bf gl gr base n first ps rsl W) : RunsS bL bR bf gl gr base n first ps rsl (W.setCell ⟨bR, 0, none⟩ (.slice (some ⟨gr, 0, none⟩) n n)) := by
  obtain ⟨rows, hg, hm⟩ := h.gd
  obtain ⟨a1, a2, a3, a4, a5, a6, a7, a8, a9, a10⟩ := h.apart
  exact ⟨blk_far h.sp a4 _, ⟨rows, hg.far h.vR (by decide) (by decide) _ _, hm⟩, blk_far h.ft a9 _, blk_far h.vL a10 _, blk_put h.vR 0 _ rfl⟩
/-- A row is written anew and its slice put back. -/
theorem RunsS.put {w1 : World} {rows : List (Value × List Int)} (h : RunsS bL bR bf gl gr base n first ps rsl W) (hg0 : Grid base W gr rows) (hm : rows.map (·.2) = rsl) (i : Nat) {v v1 : Value} {xs xs1 : List Int} (hi : rows[i]? = some (v, xs)) (hg : W.grownBy w1 v.ownBlock) (hR : Kd.R (Kd.int .u8) 5 w1 base (fun _ => True) v1 xs1) (hat : v1.ownBlock = v.ownBlock ∨ ∃ b, v1.ownBlock = some b ∧ W.heap.size ≤ b) :
    RunsS bL bR bf gl gr base n first ps (rsl.set i xs1) (w1.setCell ⟨gr, i, none⟩ v1) := by
  obtain ⟨a1, a2, a3, a4, a5, a6, a7, a8, a9, a10⟩ := h.apart
  have hrow := hg0.own i v xs hi
  refine ⟨blk_far (blk_grown h.sp hg (R_ne hrow h.sp (by decide))) a1 _, ⟨_, hg0.put i hi hg hR hat, by rw [List.map_set, hm]⟩, blk_far (blk_grown h.ft hg (R_ne hrow h.ft (by decide))) (Ne.symm a5) _, blk_far (blk_grown h.vL hg (R_ne hrow h.vL (by decide))) (Ne.symm a6) _, blk_far (blk_grown h.vR hg (R_ne hrow h.vR (by decide))) (Ne.symm a7) _⟩
/-- A row is ordered. -/
theorem RunsS.sort {w1 : World} {rows : List (Value × List Int)} (h : RunsS bL bR bf gl gr base n first ps rsl W) (hg0 : Grid base W gr rows) (hm : rows.map (·.2) = rsl) (i g k c : Nat) {xs xs1 : List Int} (hi : rows[i]? = some (.slice (some ⟨g, 0, none⟩) k c, xs)) (hc : Ch (fun k => k = g) W w1) (hR : Kd.R (Kd.int .u8) 5 w1 base (fun _ => True) (.slice (some ⟨g, 0, none⟩) k c) xs1) :
    RunsS bL bR bf gl gr base n first ps (rsl.set i xs1) w1 := by
  have hrow := hg0.own i _ xs hi
  have hob : (Value.slice (some ⟨g, 0, none⟩) k c).ownBlock = some g := by simp [Value.ownBlock]
  have ne : ∀ {b t : Nat} {cells : Array Value}, W.heap[b]? = some (.cells cells t (0, 0)) → t ≠ 5 → ¬ b = g := fun hb ht e => R_ne hrow hb ht (by rw [hob, e])
  exact ⟨hc.heap h.sp (ne h.sp (by decide)), ⟨_, hg0.sort i g k c hi hc hR, by rw [List.map_set, hm]⟩, hc.heap h.ft (ne h.ft (by decide)), hc.heap h.vL (ne h.vL (by decide)), hc.heap h.vR (ne h.vR (by decide))⟩
end
theorem grid_at {rows : List (Value × List Int)} {ys : List (List Int)} (hm : rows.map (·.2) = ys) {i : Nat} {q : List Int} (hq : ys[i]? = some q) : ∃ v, rows[i]? = some (v, q) := by
  subst hm
  rw [List.getElem?_map] at hq
  cases e : rows[i]? with
  | none => rw [e] at hq; simp at hq
  | some p =>
    rw [e] at hq
    have hp : p.2 = q := by simpa using hq
    exact ⟨p.1, by rw [← hp]⟩
theorem mix_same {α : Type} {f g : Nat → α} {n j : Nat} (hj : j < n) (h : f j = g j) : mix f g n (j + 1) = mix f g n j := by
  rw [← mix_set f g n j hj, ← h]
  refine List.ext_getElem? fun i => ?_
  by_cases e : j = i
  · subst e
    rw [List.getElem?_set_self (by rw [mix_len]; exact hj), mix_at f g n j hj]
  · rw [List.getElem?_set_ne e]
theorem runs_start {bL bR bf gl gr base n : Nat} {W : World} (hl : W.heap[gl]? = some (.cells (spanCells (List.replicate n (0, 0))).toArray 28 (0, 0))) (hr : W.heap[gr]? = some (.cells (List.replicate n (.slice none 0 0)).toArray 41 (0, 0))) (hf : W.heap[bf]? = some (.cells #[.bool true] 4 (0, 0)))
    (hL : W.heap[bL]? = some (.cells #[.slice (some ⟨gl, 0, none⟩) n n] 69 (0, 0))) (hR : W.heap[bR]? = some (.cells #[.slice (some ⟨gr, 0, none⟩) n n] 37 (0, 0))) :
    RunsS bL bR bf gl gr base n true ((List.range n).map fun i => sp (lvAt [] i)) ((List.range n).map (rowsA [])) W := by
  have e1 : ((List.range n).map fun i => sp (lvAt [] i)) = List.replicate n (0, 0) := by
    refine List.ext_getElem (by simp) fun i h1 h2 => ?_
    simp [lvAt, sp]
  have e2 : ((List.range n).map (rowsA [])) = List.replicate n [] := by
    refine List.ext_getElem (by simp) fun i h1 h2 => ?_
    simp [rowsA, rsAt]
  rw [e1, e2]
  refine ⟨hl, ⟨List.replicate n (.slice none 0 0, []), ⟨by rw [List.map_replicate]; exact hr, ?_, ?_⟩, by rw [List.map_replicate]⟩, hf, hL, hR⟩
  · intro i v xs hi
    rw [List.getElem?_replicate] at hi
    split at hi
    · injection hi with hi
      injection hi with h1 h2
      subst h1; subst h2
      exact Kd.R_nil _ _ _ _ _
    · cases hi
  · intro i j v xs u ys hi hj _ q hq
    rw [List.getElem?_replicate] at hi
    split at hi
    · injection hi with hi
      injection hi with h1 h2
      subst h1
      simp [Value.ownBlock] at hq
    · cases hi
theorem ChT.of_mark {d : Nat} {W W' : World} (h : ∀ b, b ≠ d → W'.heap[b]? = W.heap[b]?) (hb : Below d W W') : ChT (fun b _ => b = d) W W' := ⟨hb.os, hb.tape, hb.output, hb.size, fun b o hb hn => (h b hn).trans hb⟩
theorem ChT.of_grown {T : Nat → Obj → Prop} {W W' : World} {row : Option Nat} (h : W.grownBy W' row) (ht : ∀ q, row = some q → ∀ o, W.heap[q]? = some o → T q o) : ChT T W W' := ⟨h.os, h.tape, h.output, h.size, fun b o hb hn => (h.block b (blk_lt hb) (fun e => hn (ht b e.symm o hb))).trans hb⟩
theorem row_typed {base : Nat} {W : World} {v : Value} {xs : List Int} (hR : Kd.R (Kd.int .u8) 5 W base (fun _ => True) v xs) (q : Nat) (hq : v.ownBlock = some q) : base ≤ q ∧ ∀ o, W.heap[q]? = some o → Row5 o := by
  obtain ⟨inner, ho, _⟩ := hR.2
  obtain ⟨cells, hc⟩ := own_typed ho q hq
  refine ⟨((Kd.R_bound hR).1 q hq).2.1, fun o h => ?_⟩
  rw [hc] at h
  injection h with h
  subst h
  rfl
theorem rowsA_range {L st : Int} {xs : List S67} (h0 : 0 ≤ st) (h1 : st < L) {H : List (List (Int × Int))} (hH : ∀ h ∈ H, h ∈ hists L st xs) (i : Nat) (hi : i < xs.length) : ∀ r ∈ rsAt H i, 0 ≤ r ∧ r < 3 := by
  intro r hr
  obtain ⟨h, hh, rfl⟩ := List.mem_map.1 hr
  have hl := hists_len L xs st h (hH h hh)
  rw [List.getD_eq_getElem?_getD, List.getElem?_eq_getElem (by omega)]
  have := hists_all L xs st h0 h1 h (hH h hh) _ (List.getElem_mem (by omega : i < h.length))
  exact ⟨this.1, this.2.1⟩
end Go.Proofs.Ytkglggggmlnleaa.Print
