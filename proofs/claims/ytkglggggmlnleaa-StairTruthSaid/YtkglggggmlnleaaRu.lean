/- stair.Runs. -/
import Derived.Test.YtkglggggmlnleaaM2
import Derived.Test.YtkglggggmlnleaaRk
import Derived.Test.YtkglggggmlnleaaPo
namespace Go.Proofs.Ytkglggggmlnleaa.Print
open Go.RowKit Go.Proofs.YtkglggggmlnleaaW.PrintWords Go.Proofs.YtkglggggmlnleaaW.PrintLast Go.Proofs.YtkglggggmlnleaaW.PrintMore
set_option linter.unusedVariables false
set_option linter.unusedSimpArgs false
attribute [local go_sem] Oper.semAt_some
def f40.T4 : Bool × List (List Nat × List Nat) := (true, [([], []), ([0], [0]), ([1], [1]), ([2, 2], [2]), ([], []), ([4], [4]), ([5], [5]), ([6, 6], [6]), ([3, 0, 1, 2, 3], [3]), ([7, 8, 0, 1, 2, 3, 4, 5, 6, 7, 8], [7])])
def f40.B4 : List Nat := [0, 1, 3, 7, 0, 16, 48, 112, 15, 511]
theorem f40.tab4 : rtab .any (opsOf Try.f40 4) = f40.T4 := by kernel_rfl
theorem f40.bits4 : waitsOk f40.T4.2 f40.B4 = true := by kernel_rfl
def f40.T14 : Bool × List (List Nat × List Nat) := (true, [([], []), ([], []), ([], []), ([], []), ([2, 3], [2, 3]), ([4], [4]), ([5], [5]), ([], []), ([6, 7], [6, 7]), ([8], [8]), ([], []), ([], []), ([10, 11], [10, 11]), ([12], [12]), ([13], [13]), ([], []), ([14, 15], [14, 15]), ([16, 9], [16]), ([9, 17], [9, 17]), ([0, 1, 0, 1, 2, 3, 4, 5, 6, 7, 8, 9, 10, 11, 12, 13, 14, 15, 16, 17, 18], [0, 1]), ([19, 18, 17, 0, 1, 2, 3, 4, 5, 6, 7, 8, 9, 10, 11, 12, 13, 14, 15, 16, 17, 18], [18, 19])])
def f40.B14 : List Nat := [0, 0, 0, 0, 12, 28, 60, 0, 252, 508, 0, 0, 3072, 7168, 15360, 0, 64512, 131068, 262140, 524287, 1048575]
theorem f40.tab14 : rtab .any (opsOf Try.f40 14) = f40.T14 := by kernel_rfl
theorem f40.bits14 : waitsOk f40.T14.2 f40.B14 = true := by kernel_rfl
def f40.T15 : Bool × List (List Nat × List Nat) := (true, [([], []), ([], []), ([0, 1], [0, 1]), ([2], [2]), ([], []), ([], []), ([5, 4], [4, 5]), ([6], [6]), ([3, 7], [3, 7]), ([8], [8])])
def f40.B15 : List Nat := [0, 0, 3, 7, 0, 0, 48, 112, 255, 511]
theorem f40.tab15 : rtab .any (opsOf Try.f40 15) = f40.T15 := by kernel_rfl
theorem f40.bits15 : waitsOk f40.T15.2 f40.B15 = true := by kernel_rfl
def f40.T16 : Bool × List (List Nat × List Nat) := (true, [([], []), ([], []), ([], []), ([], []), ([2, 3], [2, 3]), ([4], [4]), ([], []), ([], []), ([7, 6], [6, 7]), ([8], [8]), ([9], [9]), ([5, 10], [5, 10]), ([0, 1, 0, 1, 2, 3, 4, 5, 6, 7, 8, 9, 10, 11], [0, 1]), ([12, 11, 11, 0, 1, 2, 3, 4, 5, 6, 7, 8, 9, 10, 11], [11, 12])])
def f40.B16 : List Nat := [0, 0, 0, 0, 12, 28, 0, 0, 192, 448, 960, 2044, 4095, 8191]
theorem f40.tab16 : rtab .any (opsOf Try.f40 16) = f40.T16 := by kernel_rfl
theorem f40.bits16 : waitsOk f40.T16.2 f40.B16 = true := by kernel_rfl
def f40.T24 : Bool × List (List Nat × List Nat) := (true, [([], []), ([], []), ([0, 0], [0]), ([1, 2, 0, 1, 2], [1]), ([3, 0, 1, 2, 3], [])])
def f40.B24 : List Nat := [0, 0, 1, 7, 15]
theorem f40.tab24 : rtab .any (opsOf Try.f40 24) = f40.T24 := by kernel_rfl
theorem f40.bits24 : waitsOk f40.T24.2 f40.B24 = true := by kernel_rfl
theorem five_wp {g : Operand} {p : Tmp} {assign body : Code} {Q : Exit → Act → World → Prop} {a : Act} {w : World} {n : Nat}
    (L st : Int) (A : Option Addr) (c : Nat) (xs : List S67) (bs bm bk bc km : Nat) (hg : a.eval g = .func (.func 69) #[] #[.pointer (some ⟨bs, 0, none⟩), .pointer (some ⟨bm, 0, none⟩), .pointer (some ⟨bc, 0, none⟩)])
    (hL1 : 1 ≤ L) (hL : L ≤ 8) (h0 : 0 ≤ st) (h1 : st < L) (hx : xs.length ≤ 14) (hI : IterSt w bs bm bk bc km L st A c xs)
    (Sb : Nat → Prop) (hSb : ∀ b, Sb b → b < w.heap.size ∧ b ≠ km ∧ b ≠ bs ∧ b ≠ bm ∧ b ≠ bk ∧ b ≠ bc ∧ ∀ ad, A = some ad → 0 < xs.length → b ≠ ad.block)
    (R : List (List (Int × Int)) → World → Prop)
    (hR : ∀ pre W W', R pre W → ChT (fun b o => ((b = km ∨ w.heap.size + 2 ≤ b) ∧ ¬ Row5 o) ∨ b = w.heap.size + 1) W W' → R pre W') (hR0 : R [] w)
    (Ax : List (Int × Int) → Act → World → Prop) (hAx : ∀ x a' W o, Ax x a' W → Ax x a' (W.putObj (w.heap.size + 1) o))
    (hassign : ∀ (x : List (Int × Int)) (W : World) (m : Nat) (K : Act → World → Prop), w.heap.size + 1 < W.heap.size → x.length = xs.length → (∀ a' W', Below W.heap.size W W' → Ax x a' W' → K a' W') →
      assign.wpIn (Fence.wide.inRound (w.heap.size + 1)) m Try.prog (Exit.then K (fun _ _ _ => False)) { tmps := a.tmps.setIfInBounds p (hval L st A xs.length c x), defers := [] } W)
    (hbody : ∀ (pre : List (List (Int × Int))) (x : List (Int × Int)) (a' : Act) (W : World) (m : Nat), w.heap.size + 1 < W.heap.size → Ch (fun b => b = km ∨ Sb b) w W → R pre W → Ax x a' W → (pre ++ [x]) <+: hists L st xs → x.length = xs.length →
      body.wpIn (Fence.wide.inRound (w.heap.size + 1)) m Try.prog (roundEnd5 (fun b o => Sb b ∨ (w.heap.size + 2 ≤ b ∧ Row5 o)) R (fun _ _ _ => False) (pre ++ [x]) W) a' W)
    (hdone : ∀ (W : World), Ch (fun b => b = km ∨ Sb b) w W → R (hists L st xs) W → W.heap[w.heap.size]? = some (.deferred (some [])) → Q .normal { a with defers := { target := .collected w.heap.size, args := #[] } :: a.defers } W) :
    (Code.rangeFunc g #[p] assign body).wpIn Fence.wide n Try.prog Q a w :=
  Five.wpIn_hist5 L st A c xs bs bm bk bc km hg hL1 hL h0 h1 hx hI Sb hSb R (fun _ _ _ => False) hR (fun _ _ _ _ h _ => h) hR0 Ax hAx hassign hbody hdone (fun _ _ _ _ _ h _ => h.elim)
theorem info28m : (Try.prog.info? 28).map (fun i => (i.zero, i.size, i.bytes)) = some (some (.agg #[.int .i64 0, .int .i64 0]), 2, 16) := by kernel_rfl
theorem info41m : (Try.prog.info? 41).map (fun i => (i.zero, i.size, i.bytes)) = some (some (.slice none 0 0), 1, 24) := by kernel_rfl
theorem made28 (n : Nat) : madeCells (Value.agg #[.int .i64 0, .int .i64 0]).cells (n * 2) = (spanCells (List.replicate n (0, 0))).toArray := by
  rw [spanCells_zero]
  refine Array.ext' ?_
  refine List.ext_getElem (by simp [madeCells]; omega) fun i h1 h2 => ?_
  have h3 : i % 2 = 0 ∨ i % 2 = 1 := by omega
  simp only [madeCells, Array.toList_map, List.getElem_map, Array.toList_range, List.getElem_range, List.getElem_replicate, Value.cells]
  rcases h3 with h3 | h3 <;> simp [h3]
theorem made41 (n : Nat) : madeCells (Value.slice none 0 0).cells (n * 1) = (List.replicate n (.slice none 0 0)).toArray := by
  refine Array.ext' ?_
  refine List.ext_getElem (by simp [madeCells]) fun i h1 h2 => ?_
  simp [madeCells, Value.cells, Nat.mod_one]
theorem make69 (n : Nat) (hn : n ≤ 14) (W : World) : (Instr.makeSlice 69 (.int .i64 (n : Int)) (.int .i64 (n : Int))).run Try.prog W = .ok (.slice (some ⟨W.heap.size, 0, none⟩) n n) (W.alloc (.cells (spanCells (List.replicate n (0, 0))).toArray 28)) := by
  obtain ⟨i0, hi, hzz⟩ := Option.map_eq_some_iff.1 info28m
  simp only [Prod.mk.injEq] at hzz
  obtain ⟨hz0, hz1, hz2⟩ := hzz
  have hr := run_make (P := Try.prog) W 69 28 i0 _ Try.underlying69 hi hz0 .i64 .i64 (n : Int) (n : Int) (by omega) (by omega) (by rw [hz2]; omega) (by omega)
  rw [hz1] at hr
  simp only [Int.toNat_natCast] at hr
  rw [made28] at hr
  exact hr
theorem make37 (n : Nat) (hn : n ≤ 14) (W : World) : (Instr.makeSlice 37 (.int .i64 (n : Int)) (.int .i64 (n : Int))).run Try.prog W = .ok (.slice (some ⟨W.heap.size, 0, none⟩) n n) (W.alloc (.cells (List.replicate n (.slice none 0 0)).toArray 41)) := by
  obtain ⟨i0, hi, hzz⟩ := Option.map_eq_some_iff.1 info41m
  simp only [Prod.mk.injEq] at hzz
  obtain ⟨hz0, hz1, hz2⟩ := hzz
  have hr := run_make (P := Try.prog) W 37 41 i0 _ Try.underlying37 hi hz0 .i64 .i64 (n : Int) (n : Int) (by omega) (by omega) (by rw [hz2]; omega) (by omega)
  rw [hz1] at hr
  simp only [Int.toNat_natCast] at hr
  rw [made41] at hr
  exact hr
section
variable {ops : Array Oper} {o : Oper} {a : Act} {Kc : Act → World → Prop} {Q : Exit → Act → World → Prop}
theorem mk69_step {W : World} (hw : Region.wanted o (yielded ops a.tmps) = true) (x y : Operand) (ho : o.op = .makeSlice 69 x y) (n : Nat) (hx : a.eval x = .int .i64 (n : Int)) (hy : a.eval y = .int .i64 (n : Int)) (hn : n ≤ 14)
    (h : ∀ g w1, w1.heap[g]? = some (.cells (spanCells (List.replicate n (0, 0))).toArray 28 (0, 0)) → Below W.heap.size W w1 → W.heap.size ≤ g → Kc (a.put o.dst (.slice (some ⟨g, 0, none⟩) n n)) w1) : if Region.wanted o (yielded ops a.tmps) = true then Oper.wp Try.prog o a W Kc Q else Kc (a.put o.dst undef) W := by
  refine event_step hw (v := .slice (some ⟨W.heap.size, 0, none⟩) n n) (w1 := W.alloc (.cells (spanCells (List.replicate n (0, 0))).toArray 28)) ?_ (h _ _ (blk_new W _) (below_alloc (Below.refl _ _) _) (Nat.le_refl _))
  unfold execOp
  have := make69 n hn W
  simp [ho, hx, hy, this]
theorem mk37_step {W : World} (hw : Region.wanted o (yielded ops a.tmps) = true) (x y : Operand) (ho : o.op = .makeSlice 37 x y) (n : Nat) (hx : a.eval x = .int .i64 (n : Int)) (hy : a.eval y = .int .i64 (n : Int)) (hn : n ≤ 14)
    (h : ∀ g w1, w1.heap[g]? = some (.cells (List.replicate n (.slice none 0 0)).toArray 41 (0, 0)) → Below W.heap.size W w1 → W.heap.size ≤ g → Kc (a.put o.dst (.slice (some ⟨g, 0, none⟩) n n)) w1) : if Region.wanted o (yielded ops a.tmps) = true then Oper.wp Try.prog o a W Kc Q else Kc (a.put o.dst undef) W := by
  refine event_step hw (v := .slice (some ⟨W.heap.size, 0, none⟩) n n) (w1 := W.alloc (.cells (List.replicate n (.slice none 0 0)).toArray 41)) ?_ (h _ _ (blk_new W _) (below_alloc (Below.refl _ _) _) (Nat.le_refl _))
  unfold execOp
  have := make37 n hn W
  simp [ho, hx, hy, this]
end

theorem possible_n (L st : Int) (A : Option Addr) (c : Nat) (l : List S67) (n : Nat) (w : World) (hn : l.length = n) (hr : Kd.C k67 w A n l) (hc : n ≤ c) :
    Calls Try.prog 45 #[.agg #[.int .i64 L, .int .i64 st, .slice A n c]] w fun e w' => e = .returned (.int .i64 (possI L st l)) ∧ Below w.heap.size w w' := by
  subst hn
  exact possible_calls L st A c l w hr hc
theorem histories_n (L st : Int) (A : Option Addr) (c : Nat) (l : List S67) (n : Nat) (w : World) (hn : l.length = n) (hr : Kd.C k67 w A n l) (hc : n ≤ c) :
    Calls Try.prog 46 #[.agg #[.int .i64 L, .int .i64 st, .slice A n c]] w fun e w' => ∃ bs bm bk bc km, e = .returned (.func (.func 69) #[] #[.pointer (some ⟨bs, 0, none⟩), .pointer (some ⟨bm, 0, none⟩), .pointer (some ⟨bc, 0, none⟩)]) ∧ IterSt w' bs bm bk bc km L st A c l ∧ Below w.heap.size w w' ∧ w.heap.size ≤ bs ∧ w.heap.size ≤ bm ∧ w.heap.size ≤ bk ∧ w.heap.size ≤ bc ∧ w.heap.size ≤ km := by
  subst hn
  exact histories_calls L st A c l w hr hc
theorem five_n {g : Operand} {p : Tmp} {assign body : Code} {Q : Exit → Act → World → Prop} {a : Act} {w : World} {n : Nat}
    (L st : Int) (A : Option Addr) (c : Nat) (xs : List S67) (nn : Nat) (hnn : xs.length = nn) (bs bm bk bc km : Nat) (hg : a.eval g = .func (.func 69) #[] #[.pointer (some ⟨bs, 0, none⟩), .pointer (some ⟨bm, 0, none⟩), .pointer (some ⟨bc, 0, none⟩)])
    (hL1 : 1 ≤ L) (hL : L ≤ 8) (h0 : 0 ≤ st) (h1 : st < L) (hx : xs.length ≤ 14) (hI : IterSt w bs bm bk bc km L st A c xs)
    (Sb : Nat → Prop) (hSb : ∀ b, Sb b → b < w.heap.size ∧ b ≠ km ∧ b ≠ bs ∧ b ≠ bm ∧ b ≠ bk ∧ b ≠ bc ∧ ∀ ad, A = some ad → 0 < nn → b ≠ ad.block)
    (R : List (List (Int × Int)) → World → Prop)
    (hR : ∀ pre W W', R pre W → ChT (fun b o => ((b = km ∨ w.heap.size + 2 ≤ b) ∧ ¬ Row5 o) ∨ b = w.heap.size + 1) W W' → R pre W') (hR0 : R [] w)
    (Ax : List (Int × Int) → Act → World → Prop) (hAx : ∀ x a' W o, Ax x a' W → Ax x a' (W.putObj (w.heap.size + 1) o))
    (hassign : ∀ (x : List (Int × Int)) (W : World) (m : Nat) (K : Act → World → Prop), w.heap.size + 1 < W.heap.size → x.length = nn → (∀ a' W', Below W.heap.size W W' → Ax x a' W' → K a' W') →
      assign.wpIn (Fence.wide.inRound (w.heap.size + 1)) m Try.prog (Exit.then K (fun _ _ _ => False)) { tmps := a.tmps.setIfInBounds p (hval L st A nn c x), defers := [] } W)
    (hbody : ∀ (pre : List (List (Int × Int))) (x : List (Int × Int)) (a' : Act) (W : World) (m : Nat), w.heap.size + 1 < W.heap.size → Ch (fun b => b = km ∨ Sb b) w W → R pre W → Ax x a' W → (pre ++ [x]) <+: hists L st xs → x.length = nn →
      body.wpIn (Fence.wide.inRound (w.heap.size + 1)) m Try.prog (roundEnd5 (fun b o => Sb b ∨ (w.heap.size + 2 ≤ b ∧ Row5 o)) R (fun _ _ _ => False) (pre ++ [x]) W) a' W)
    (hdone : ∀ (W : World), Ch (fun b => b = km ∨ Sb b) w W → R (hists L st xs) W → W.heap[w.heap.size]? = some (.deferred (some [])) → Q .normal { a with defers := { target := .collected w.heap.size, args := #[] } :: a.defers } W) :
    (Code.rangeFunc g #[p] assign body).wpIn Fence.wide n Try.prog Q a w := by
  subst hnn
  exact five_wp L st A c xs bs bm bk bc km hg hL1 hL h0 h1 hx hI Sb hSb R hR hR0 Ax hAx hassign hbody hdone
theorem far0 {w : World} {g g' : Nat} {t : TypeId} {cs : Array Value} (h : w.heap[g]? = some (.cells cs t (0, 0))) (hne : g ≠ g') (u : Value) : (w.setCell ⟨g', 0, none⟩ u).heap[g]? = some (.cells cs t (0, 0)) := blk_far h hne u
theorem contains8k (A : Option Addr) (c k : Nat) (l : List Int) (x : Int) (b : Bool) (hb : decide (x ∈ l) = b) (w : World) (hk : l.length = k) (hn : k ≤ 3) (hr : Kd.C (Kd.int .u8) w A k l) :
    Calls Try.prog 66 #[.slice A k c, .int .u8 x] w fun e w' => e = .returned (.bool b) ∧ w = w' := by
  subst hk
  subst hb
  exact contains8_calls A c l x w (by omega) hr
theorem C1u {w : World} {g : Nat} {a : Int} (h : w.heap[g]? = some (.cells #[.int .u8 a] 5 (0, 0))) : Kd.C (Kd.int .u8) w (some ⟨g, 0, none⟩) 1 [a] := by
  refine ⟨rfl, by omega, fun _ => ⟨_, rfl, fun j p hj => ⟨[.int .u8 p], rfl, rfl, fun i u hi => ?_⟩⟩⟩
  match j, i, hj, hi with
  | 0, 0, hj, hi => simp at hj hi; subst hj; subst hi; exact (blk_cell h 0).trans rfl
  | 0, i + 1, hj, hi => simp at hi
  | j + 1, i, hj, hi => simp at hj
section
variable {P : Program} {ops : Array Oper} {o : Oper} {a : Act} {Kc : Act → World → Prop} {Q : Exit → Act → World → Prop}
/-- One cell into a new slice. -/
theorem slice1_step {W : World} (hw : Region.wanted o (yielded ops a.tmps) = true) {N : Tmp} (_hd : o.dst = some N) {x : Value} {t : TypeId}
    (hrun : (execOp a.eval o).run P W = .ok (.value (.slice (some ⟨W.heap.size, 0, none⟩) 1 1)) (W.alloc (.cells #[x] t (0, 0))))
    (h : ∀ g w1, w1.heap[g]? = some (.cells #[x] t (0, 0)) → Below W.heap.size W w1 → Kc (a.put o.dst (.slice (some ⟨g, 0, none⟩) 1 1)) w1) : if Region.wanted o (yielded ops a.tmps) = true then Oper.wp P o a W Kc Q else Kc (a.put o.dst undef) W :=
  event_step hw hrun (h _ _ (blk_new W _) (below_alloc (Below.refl _ _) _))
end
def GridAt (base gr jn : Nat) (v : Value) (xs : List Int) (ys : List (List Int)) (W : World) : Prop := ∃ rows, Grid base W gr rows ∧ rows.map (·.2) = ys ∧ rows[jn]? = some (v, xs)
/-- What the call returns. -/
def RunsOut (L st : Int) (l : List S67) (w : World) (vs vr : Value) : Prop :=
  if possI L st l = 0 then ∃ gl gr, vs = .slice (some ⟨gl, 0, none⟩) l.length l.length ∧ vr = .slice (some ⟨gr, 0, none⟩) l.length l.length ∧
    Kd.C k28 w (some ⟨gl, 0, none⟩) l.length ((List.range l.length).map fun i => (⟨(sp (lvAt (hists L st l) i)).1, (sp (lvAt (hists L st l) i)).2⟩ : S28)) ∧
    Kd.C sl8 w (some ⟨gr, 0, none⟩) l.length ((List.range l.length).map fun i => rowR (rsAt (hists L st l) i))
  else vs = .slice none 0 0 ∧ vr = .slice none 0 0
set_option maxHeartbeats 8000000 in
set_option maxRecDepth 100000 in
theorem runs_n (L st : Int) (A : Option Addr) (c : Nat) (l : List S67) (n : Nat) (w : World) (hn : l.length = n) (hr : Kd.C k67 w A n l) (hc : n ≤ c) :
    Calls Try.prog 40 #[.agg #[.int .i64 L, .int .i64 st, .slice A n c]] w fun e w' => ∃ vs vr, e = .returned (.tuple #[vs, vr, .int .i64 (possI L st l)]) ∧ RunsOut L st l w' vs vr ∧ Below w.heap.size w w' := by
  have hu34 := Try.underlying34
  have HN := Aside0.mk hn
  have HR := Aside0.mk hr
  have HC := Aside0.mk hc
  clear hr hc hn
  refine (callsIn_wide (n := 0)).1 ?_
  refine callsIn_of_wp_marks Try.func40 rfl trivial ?_ rfl
  simp only [Try.ntmps40, List.size_toArray, List.length_cons, List.length_nil, Nat.reduceAdd, Nat.reduceSub, Array.replicate_succ, Array.replicate_zero, List.push_toArray, List.append_toArray, List.nil_append, List.cons_append]
  have KB : Aside0 (Below w.heap.size w (((w.alloc (.cells #[.int .i64 L, .int .i64 st, .slice A n c] 34)).alloc (.cells #[.slice none 0 0] 69)).alloc (.cells #[.slice none 0 0] 37))) := ⟨(((Below.refl _ w).alloc (by simp) _).alloc (by simp) _).alloc (by simp; try omega) _⟩
  have X1 : Aside0 ((((w.alloc (.cells #[.int .i64 L, .int .i64 st, .slice A n c] 34)).alloc (.cells #[.slice none 0 0] 69)).alloc (.cells #[.slice none 0 0] 37)).heap[w.heap.size]? = some (.cells #[.int .i64 L, .int .i64 st, .slice A n c] 34 (0, 0))) := ⟨blk_alloc (blk_alloc (new_at rfl) _) _⟩
  have X2 : Aside0 ((((w.alloc (.cells #[.int .i64 L, .int .i64 st, .slice A n c] 34)).alloc (.cells #[.slice none 0 0] 69)).alloc (.cells #[.slice none 0 0] 37)).heap[w.heap.size + 1]? = some (.cells #[.slice none 0 0] 69 (0, 0))) := ⟨blk_alloc (new_at (by simp)) _⟩
  have X3 : Aside0 ((((w.alloc (.cells #[.int .i64 L, .int .i64 st, .slice A n c] 34)).alloc (.cells #[.slice none 0 0] 69)).alloc (.cells #[.slice none 0 0] 37)).heap[w.heap.size + 1 + 1]? = some (.cells #[.slice none 0 0] 37 (0, 0))) := ⟨new_at (by simp)⟩
  gi_wp2_with fail
  refine ⟨trivial, rfl, ?_⟩
  generalize (((w.alloc (.cells #[.int .i64 L, .int .i64 st, .slice A n c] 34)).alloc (.cells #[.slice none 0 0] 69)).alloc (.cells #[.slice none 0 0] 37)) = w0 at KB X1 X2 X3 ⊢
  refine (callsIn_wide.2 (possible_n L st A c l n _ HN.out (Kd.C_below HR.out KB.out) HC.out)).mono ?_
  rintro e w1 ⟨rfl, hb1⟩
  replace KB := Aside0.mk (KB.out.trans (hb1.mono KB.out.size))
  replace X1 := Aside0.mk (blk_below X1.out hb1)
  replace X2 := Aside0.mk (blk_below X2.out hb1)
  replace X3 := Aside0.mk (blk_below X3.out hb1)
  clear hb1
  obtain ⟨pv, hpv⟩ : ∃ pv, possI L st l = pv := ⟨_, rfl⟩
  rw [hpv]
  have HPV := Aside0.mk hpv
  clear hpv
  have q0 : w1.cell? ⟨w.heap.size, 0, none⟩ = some (.int .i64 L) := (blk_cell X1.out 0).trans rfl
  have q1 : w1.cell? ⟨w.heap.size, 1, none⟩ = some (.int .i64 st) := (blk_cell X1.out 1).trans rfl
  have q2 : w1.cell? ⟨w.heap.size, 2, none⟩ = some (.slice A n c) := (blk_cell X1.out 2).trans rfl
  have q3 : w1.cell? ⟨w.heap.size + 1, 0, none⟩ = some (.slice none 0 0) := (blk_cell X2.out 0).trans rfl
  have q4 : w1.cell? ⟨w.heap.size + 1 + 1, 0, none⟩ = some (.slice none 0 0) := (blk_cell X3.out 0).trans rfl
  have f3 := blk_frozen X2.out 0
  have f4 := blk_frozen X3.out 0
  have l1 := blk_lt X1.out
  have l2 := blk_lt X2.out
  have l3 := blk_lt X3.out
  by_cases hp : pv = 0
  · subst hp
    obtain ⟨hck, hne⟩ := poss_ok HPV.out
    have HCK := Aside0.mk (check_ok hck)
    have HNE := Aside0.mk hne
    have HN14 : Aside0 (n ≤ 14) := ⟨by have := HCK.out.2.2.2.2; have := HN.out; omega⟩
    have HP := Aside0.mk (And.intro l1 q2)
    have HP3 := Aside0.mk (And.intro l2 (And.intro l3 (And.intro q3 q4)))
    clear hck hne
    gi_wp2_with fail
    clear q0 q1 q2 q3 q4 f3 f4
    refine startIn_ (n := 10) (S := (fun w' => Ch (fun b => b = w.heap.size + 1) w1 w')) (ds := [9]) #[false, false, false, false, false, false, false, false, false, false] (by kernel_rfl) rfl rfl ((Ch.refl _ _).drew) rfl (fun hHeld => ?_)
    refine with_tabW f40.tab4 f40.bits4 (fun HT_ HW_ => ?_)
    have XL : Aside0 (w1.drew.heap[w.heap.size + 1]? = some (.cells #[.slice none 0 0] 69 (0, 0))) := X2
    refine take_ (i := 0) (N := some 17) (v := ?_) (a' := ?_) #[true, false, false, false, false, false, false, false, false, false] rfl rfl (take_ofW HT_.out HW_.out (by kernel_rfl)) (fun _ _ _ h => h) (Or.inl ⟨by rfl, ?_⟩) hHeld ?_ ?_
    rotate_left
    · rintro w' hS
      have s0 := (blk_cell (hS.heap X1.out (by omega : ¬ w.heap.size = w.heap.size + 1)) 2).trans rfl
      clear hS
      go_simp
      with_reducible rfl
    rotate_left
    · simp only [Act.put, List.setIfInBounds_toArray, List.set_cons_zero, List.set_cons_succ, i64_w, i32_w]
      rfl
    refine take_ (i := 1) (N := some 18) (v := ?_) (a' := ?_) #[true, true, false, false, false, false, false, false, false, false] rfl rfl (take_ofW HT_.out HW_.out (by kernel_rfl)) (fun _ _ _ h => h) (Or.inl ⟨by rfl, ?_⟩) hHeld ?_ ?_
    rotate_left
    · rintro w' hS
      have s0 := (blk_cell (hS.heap X1.out (by omega : ¬ w.heap.size = w.heap.size + 1)) 2).trans rfl
      clear hS
      go_simp
      with_reducible rfl
    rotate_left
    · simp only [Act.put, List.setIfInBounds_toArray, List.set_cons_zero, List.set_cons_succ, i64_w, i32_w]
      rfl
    refine take_ (i := 2) (N := some 19) (v := ?_) (a' := ?_) #[true, true, true, false, false, false, false, false, false, false] rfl rfl (take_ofW HT_.out HW_.out (by kernel_rfl)) (fun _ _ _ h => h) (Or.inl ⟨by rfl, ?_⟩) hHeld ?_ ?_
    rotate_left
    · rintro w' hS
      have s0 := (blk_cell (hS.heap X1.out (by omega : ¬ w.heap.size = w.heap.size + 1)) 2).trans rfl
      clear hS
      go_simp
      with_reducible rfl
    rotate_left
    · simp only [Act.put, List.setIfInBounds_toArray, List.set_cons_zero, List.set_cons_succ, i64_w, i32_w]
      rfl
    refine take_ (i := 4) (N := some 21) (v := ?_) (a' := ?_) #[true, true, true, false, true, false, false, false, false, false] rfl rfl (take_ofW HT_.out HW_.out (by kernel_rfl)) (fun _ _ _ h => h) (Or.inl ⟨by rfl, ?_⟩) hHeld ?_ ?_
    rotate_left
    · rintro w' hS
      have s0 := (blk_cell (hS.heap X1.out (by omega : ¬ w.heap.size = w.heap.size + 1)) 2).trans rfl
      clear hS
      go_simp
      with_reducible rfl
    rotate_left
    · simp only [Act.put, List.setIfInBounds_toArray, List.set_cons_zero, List.set_cons_succ, i64_w, i32_w]
      rfl
    refine take_ (i := 5) (N := some 22) (v := ?_) (a' := ?_) #[true, true, true, false, true, true, false, false, false, false] rfl rfl (take_ofW HT_.out HW_.out (by kernel_rfl)) (fun _ _ _ h => h) (Or.inl ⟨by rfl, ?_⟩) hHeld ?_ ?_
    rotate_left
    · rintro w' hS
      have s0 := (blk_cell (hS.heap X1.out (by omega : ¬ w.heap.size = w.heap.size + 1)) 2).trans rfl
      clear hS
      go_simp
      with_reducible rfl
    rotate_left
    · simp only [Act.put, List.setIfInBounds_toArray, List.set_cons_zero, List.set_cons_succ, i64_w, i32_w]
      rfl
    refine take_ (i := 6) (N := some 23) (v := ?_) (a' := ?_) #[true, true, true, false, true, true, true, false, false, false] rfl rfl (take_ofW HT_.out HW_.out (by kernel_rfl)) (fun _ _ _ h => h) (Or.inl ⟨by rfl, ?_⟩) hHeld ?_ ?_
    rotate_left
    · rintro w' hS
      have s0 := (blk_cell (hS.heap X1.out (by omega : ¬ w.heap.size = w.heap.size + 1)) 2).trans rfl
      clear hS
      go_simp
      with_reducible rfl
    rotate_left
    · simp only [Act.put, List.setIfInBounds_toArray, List.set_cons_zero, List.set_cons_succ, i64_w, i32_w]
      rfl
    refine join_ (σ := Nat × Nat) 1 #[true, true, true, true, true, true, true, true, true, false] (fun s_ => [(20, .slice (some ⟨s_.1, 0, none⟩) n n), (24, .slice (some ⟨s_.2, 0, none⟩) n n)]) (fun s_ w' => Ch (fun b => b = w.heap.size + 1) w1 w' ∧ w'.heap[w.heap.size + 1]? = some (.cells #[.slice (some ⟨s_.1, 0, none⟩) n n] 69 (0, 0)) ∧ w'.heap[s_.1]? = some (.cells (spanCells (List.replicate n (0, 0))).toArray 28 (0, 0)) ∧ w'.heap[s_.2]? = some (.cells (List.replicate n (.slice none 0 0)).toArray 41 (0, 0)) ∧ w1.heap.size ≤ s_.1 ∧ w1.heap.size ≤ s_.2) ?_ ?_
    rotate_left
    · intro hCont
      refine two_ (i := 3) (j := 7) (Ni := some 20) (Nj := some 24) #[true, true, true, true, true, true, true, false, false, false] #[true, true, true, false, true, true, true, true, false, false] rfl rfl rfl rfl (two_of HT_.out (by kernel_rfl)) (by decide) (by decide) (fun K hK => ?_) (fun K hK => ?_)
      · refine mk69_step (by rfl) (.tmp 19) (.tmp 19) rfl n rfl rfl HN14.out ?_
        intro g1 w31 hb1 hbel hle
        have HG1 := Aside0.mk (And.intro hb1 (Nat.le_trans hHeld.size hle))
        replace XL := Aside0.mk (blk_below XL.out hbel)
        refine hK.out _ _ (hHeld.trans (Ch.of_below hbel)) ?_
        clear hHeld hbel hb1 hle
        intro hHeld
        clear hK K
        refine norm_ (a' := ?_) ?_ ?_
        rotate_left
        · show Act.put _ (some 20) _ = _
          simp only [Act.put, List.setIfInBounds_toArray, List.set_cons_zero, List.set_cons_succ, i64_w, i32_w]
          rfl
        refine two_ (i := 7) (j := 8) (Ni := some 24) (Nj := none) #[true, true, true, true, true, true, true, true, false, false] #[true, true, true, true, true, true, true, false, true, false] rfl rfl rfl rfl (two_of HT_.out (by kernel_rfl)) (by decide) (by decide) (fun K hK => ?_) (fun K hK => ?_)
        · refine mk37_step (by rfl) (.tmp 23) (.tmp 23) rfl n rfl rfl HN14.out ?_
          intro g2 w32 hb2 hbel hle
          have HG2 := Aside0.mk (And.intro hb2 (Nat.le_trans hHeld.size hle))
          replace XL := Aside0.mk (blk_below XL.out hbel)
          replace HG1 := Aside0.mk (And.intro (blk_below HG1.out.1 hbel) HG1.out.2)
          refine hK.out _ _ (hHeld.trans (Ch.of_below hbel)) ?_
          clear hHeld hbel hb2 hle
          intro hHeld
          clear hK K
          refine norm_ (a' := ?_) ?_ ?_
          rotate_left
          · show Act.put _ (some 24) _ = _
            simp only [Act.put, List.setIfInBounds_toArray, List.set_cons_zero, List.set_cons_succ, i64_w, i32_w]
            rfl
          refine one_ (i := 8) (N := none) #[true, true, true, true, true, true, true, true, true, false] rfl rfl (one_of HT_.out (by kernel_rfl)) (by decide) (fun K hK => ?_)
          have t3 := (blk_cell XL.out 0).trans rfl
          have t5 := blk_frozen XL.out 0
          refine skip_ (w1 := ?_) (by rfl) rfl ?_ ?_
          rotate_left
          · go_simp
            rfl
          replace XL := Aside0.mk (blk_put (cs' := #[.slice (some ⟨g1, 0, none⟩) n n]) XL.out 0 (.slice (some ⟨g1, 0, none⟩) n n) rfl)
          replace HG1 := Aside0.mk (And.intro (blk_far (p := ⟨w.heap.size + 1, 0, none⟩) HG1.out.1 (by show g1 ≠ w.heap.size + 1; have := HG1.out.2; omega) (.slice (some ⟨g1, 0, none⟩) n n)) HG1.out.2)
          replace HG2 := Aside0.mk (And.intro (blk_far (p := ⟨w.heap.size + 1, 0, none⟩) HG2.out.1 (by show g2 ≠ w.heap.size + 1; have := HG2.out.2; omega) (.slice (some ⟨g1, 0, none⟩) n n)) HG2.out.2)
          refine hK.out _ _ (hHeld.setCell _ _ (fun _ => rfl)) ?_
          clear hHeld t3 t5
          intro hHeld
          clear hK K
          exact norm_ (by simp only [putAll, Act.put, List.setIfInBounds_toArray, List.set_cons_zero, List.set_cons_succ]) (hCont (g1, g2) _ ⟨hHeld, XL.out, HG1.out.1, HG2.out.1, HG1.out.2, HG2.out.2⟩)
        · have t3 := (blk_cell XL.out 0).trans rfl
          have t5 := blk_frozen XL.out 0
          refine skip_ (w1 := ?_) (by rfl) rfl ?_ ?_
          rotate_left
          · go_simp
            rfl
          replace XL := Aside0.mk (blk_put (cs' := #[.slice (some ⟨g1, 0, none⟩) n n]) XL.out 0 (.slice (some ⟨g1, 0, none⟩) n n) rfl)
          replace HG1 := Aside0.mk (And.intro (blk_far (p := ⟨w.heap.size + 1, 0, none⟩) HG1.out.1 (by show g1 ≠ w.heap.size + 1; have := HG1.out.2; omega) (.slice (some ⟨g1, 0, none⟩) n n)) HG1.out.2)
          refine hK.out _ _ (hHeld.setCell _ _ (fun _ => rfl)) ?_
          clear hHeld t3 t5
          intro hHeld
          clear hK K
          refine one_ (i := 7) (N := some 24) #[true, true, true, true, true, true, true, true, true, false] rfl rfl (one_of HT_.out (by kernel_rfl)) (by decide) (fun K hK => ?_)
          refine mk37_step (by rfl) (.tmp 23) (.tmp 23) rfl n rfl rfl HN14.out ?_
          intro g2 w32 hb2 hbel hle
          have HG2 := Aside0.mk (And.intro hb2 (Nat.le_trans hHeld.size hle))
          replace XL := Aside0.mk (blk_below XL.out hbel)
          replace HG1 := Aside0.mk (And.intro (blk_below HG1.out.1 hbel) HG1.out.2)
          refine hK.out _ _ (hHeld.trans (Ch.of_below hbel)) ?_
          clear hHeld hbel hb2 hle
          intro hHeld
          clear hK K
          refine norm_ (a' := ?_) ?_ ?_
          rotate_left
          · show Act.put _ (some 24) _ = _
            simp only [Act.put, List.setIfInBounds_toArray, List.set_cons_zero, List.set_cons_succ, i64_w, i32_w]
            rfl
          exact norm_ (by simp only [putAll, Act.put, List.setIfInBounds_toArray, List.set_cons_zero, List.set_cons_succ]) (hCont (g1, g2) _ ⟨hHeld, XL.out, HG1.out.1, HG2.out.1, HG1.out.2, HG2.out.2⟩)
      · refine mk37_step (by rfl) (.tmp 23) (.tmp 23) rfl n rfl rfl HN14.out ?_
        intro g2 w32 hb2 hbel hle
        have HG2 := Aside0.mk (And.intro hb2 (Nat.le_trans hHeld.size hle))
        replace XL := Aside0.mk (blk_below XL.out hbel)
        refine hK.out _ _ (hHeld.trans (Ch.of_below hbel)) ?_
        clear hHeld hbel hb2 hle
        intro hHeld
        clear hK K
        refine norm_ (a' := ?_) ?_ ?_
        rotate_left
        · show Act.put _ (some 24) _ = _
          simp only [Act.put, List.setIfInBounds_toArray, List.set_cons_zero, List.set_cons_succ, i64_w, i32_w]
          rfl
        refine one_ (i := 3) (N := some 20) #[true, true, true, true, true, true, true, true, false, false] rfl rfl (one_of HT_.out (by kernel_rfl)) (by decide) (fun K hK => ?_)
        refine mk69_step (by rfl) (.tmp 19) (.tmp 19) rfl n rfl rfl HN14.out ?_
        intro g1 w31 hb1 hbel hle
        have HG1 := Aside0.mk (And.intro hb1 (Nat.le_trans hHeld.size hle))
        replace XL := Aside0.mk (blk_below XL.out hbel)
        replace HG2 := Aside0.mk (And.intro (blk_below HG2.out.1 hbel) HG2.out.2)
        refine hK.out _ _ (hHeld.trans (Ch.of_below hbel)) ?_
        clear hHeld hbel hb1 hle
        intro hHeld
        clear hK K
        refine norm_ (a' := ?_) ?_ ?_
        rotate_left
        · show Act.put _ (some 20) _ = _
          simp only [Act.put, List.setIfInBounds_toArray, List.set_cons_zero, List.set_cons_succ, i64_w, i32_w]
          rfl
        refine one_ (i := 8) (N := none) #[true, true, true, true, true, true, true, true, true, false] rfl rfl (one_of HT_.out (by kernel_rfl)) (by decide) (fun K hK => ?_)
        have t3 := (blk_cell XL.out 0).trans rfl
        have t5 := blk_frozen XL.out 0
        refine skip_ (w1 := ?_) (by rfl) rfl ?_ ?_
        rotate_left
        · go_simp
          rfl
        replace XL := Aside0.mk (blk_put (cs' := #[.slice (some ⟨g1, 0, none⟩) n n]) XL.out 0 (.slice (some ⟨g1, 0, none⟩) n n) rfl)
        replace HG1 := Aside0.mk (And.intro (blk_far (p := ⟨w.heap.size + 1, 0, none⟩) HG1.out.1 (by show g1 ≠ w.heap.size + 1; have := HG1.out.2; omega) (.slice (some ⟨g1, 0, none⟩) n n)) HG1.out.2)
        replace HG2 := Aside0.mk (And.intro (blk_far (p := ⟨w.heap.size + 1, 0, none⟩) HG2.out.1 (by show g2 ≠ w.heap.size + 1; have := HG2.out.2; omega) (.slice (some ⟨g1, 0, none⟩) n n)) HG2.out.2)
        refine hK.out _ _ (hHeld.setCell _ _ (fun _ => rfl)) ?_
        clear hHeld t3 t5
        intro hHeld
        clear hK K
        exact norm_ (by simp only [putAll, Act.put, List.setIfInBounds_toArray, List.set_cons_zero, List.set_cons_succ]) (hCont (g1, g2) _ ⟨hHeld, XL.out, HG1.out.1, HG2.out.1, HG1.out.2, HG2.out.2⟩)
    clear XL
    rintro ⟨gl, gr⟩ w2 ⟨hHeld, hxl, hgl, hgr, hlg, hrg⟩
    have HL3 := Aside0.mk (hHeld.heap X3.out (by omega : ¬ w.heap.size + 1 + 1 = w.heap.size + 1))
    have t4 := (blk_cell HL3.out 0).trans rfl
    have t6 := blk_frozen HL3.out 0
    have HL2 := Aside0.mk hxl
    have HGL := Aside0.mk hgl
    have HGR := Aside0.mk hgr
    have HLE := Aside0.mk (And.intro hlg hrg)
    have HH2 := Aside0.mk hHeld
    clear hgl hgr hlg hrg hxl
    refine norm_ (a' := ?_) ?_ ?_
    rotate_left
    · simp only [putAll, Act.put, List.setIfInBounds_toArray, List.set_cons_zero, List.set_cons_succ]
      rfl
    refine last_ (i := 9) (N := none) #[true, true, true, true, true, true, true, true, true, true] rfl rfl (one_of HT_.out (by kernel_rfl)) (by decide) (fun K hK => ?_)
    refine skip_ (w1 := ?_) (by rfl) rfl ?_ ?_
    rotate_left
    · go_simp
      rfl
    refine hK.out _ _ ?_
    clear hK K
    refine done_ (done_of HT_.out (by kernel_rfl)) ?_
    refine onlyN_mk ?_
    have a2 : w.heap.size ≠ w.heap.size + 1 + 1 := by omega
    have a3 : w.heap.size + 1 ≠ w.heap.size + 1 + 1 := by omega
    have b2 : gl ≠ w.heap.size + 1 + 1 := by have := HLE.out; omega
    have b4 : gr ≠ w.heap.size + 1 + 1 := by have := HLE.out; omega
    have Y1 := Aside0.mk (far0 (HH2.out.heap X1.out (by omega : ¬ w.heap.size = w.heap.size + 1)) a2 (.slice (some ⟨gr, 0, none⟩) n n))
    have Y2 := Aside0.mk (far0 HL2.out a3 (.slice (some ⟨gr, 0, none⟩) n n))
    have Y3 := Aside0.mk (blk_put (cs' := #[.slice (some ⟨gr, 0, none⟩) n n]) HL3.out 0 (.slice (some ⟨gr, 0, none⟩) n n) rfl)
    have Y4 := Aside0.mk (far0 HGL.out b2 (.slice (some ⟨gr, 0, none⟩) n n))
    have Y5 := Aside0.mk (far0 HGR.out b4 (.slice (some ⟨gr, 0, none⟩) n n))
    have KB2 : Aside0 (Below w.heap.size w (w2.setCell ⟨w.heap.size + 1 + 1, 0, none⟩ (.slice (some ⟨gr, 0, none⟩) n n))) := ⟨below_set (KB.out.trans (HH2.out.below KB.out.size (by intro i hi h; omega))) (by show w.heap.size ≤ _; omega)⟩
    have z1 : w1.heap.size ≤ (w2.setCell ⟨w.heap.size + 1 + 1, 0, none⟩ (.slice (some ⟨gr, 0, none⟩) n n)).heap.size := by have := HH2.out.size; simpa using this
    clear hHeld t4 t6 a2 a3 b2 b4 HL2 HL3 HGL HGR HH2 X1 X2 X3 KB HP HP3
    generalize (w2.setCell ⟨w.heap.size + 1 + 1, 0, none⟩ (.slice (some ⟨gr, 0, none⟩) n n)) = wa at Y1 Y2 Y3 Y4 Y5 KB2 z1 ⊢
    have q0 : wa.cell? ⟨w.heap.size, 0, none⟩ = some (.int .i64 L) := (blk_cell Y1.out 0).trans rfl
    have q1 : wa.cell? ⟨w.heap.size, 1, none⟩ = some (.int .i64 st) := (blk_cell Y1.out 1).trans rfl
    have q2 : wa.cell? ⟨w.heap.size, 2, none⟩ = some (.slice A n c) := (blk_cell Y1.out 2).trans rfl
    have l4 := blk_lt Y1.out
    gi_wp2_with fail
    replace Y1 := Aside0.mk (blk_alloc Y1.out (.cells #[.bool true] 4))
    replace Y2 := Aside0.mk (blk_alloc Y2.out (.cells #[.bool true] 4))
    replace Y3 := Aside0.mk (blk_alloc Y3.out (.cells #[.bool true] 4))
    replace Y4 := Aside0.mk (blk_alloc Y4.out (.cells #[.bool true] 4))
    replace Y5 := Aside0.mk (blk_alloc Y5.out (.cells #[.bool true] 4))
    have Y6 := Aside0.mk (blk_new wa (.cells #[.bool true] 4))
    replace KB2 := Aside0.mk (KB2.out.alloc (by omega) (.cells #[.bool true] 4))
    have z2 : (wa.alloc (.cells #[.bool true] 4)).heap.size = wa.heap.size + 1 := by simp
    obtain ⟨bf, hbf⟩ : ∃ bf, wa.heap.size = bf := ⟨_, rfl⟩
    rw [hbf] at Y6 z1 z2 l4 ⊢
    clear q0 q1 q2 hbf
    generalize wa.alloc (.cells #[.bool true] 4) = wb at Y1 Y2 Y3 Y4 Y5 Y6 KB2 z2 ⊢
    refine ⟨trivial, rfl, (callsIn_wide.2 (histories_n L st A c l n _ HN.out (Kd.C_below HR.out KB2.out) HC.out)).mono ?_⟩
    rintro e w3 ⟨bs, bm, bk, bc, km, rfl, hI, hb3, hg1, hg2, hg3, hg4, hg5⟩
    rw [z2] at hg1 hg2 hg3 hg4 hg5
    gi_wp2_with fail
    have HI := Aside0.mk hI
    have z3 : bf < w3.heap.size := by have := hb3.size; omega
    have z4 : gl < w3.heap.size := blk_lt (blk_below Y4.out hb3)
    have z5 : gr < w3.heap.size := blk_lt (blk_below Y5.out hb3)
    have z6 : gl < bf + 1 := by have := blk_lt Y4.out; omega
    have z7 : gr < bf + 1 := by have := blk_lt Y5.out; omega
    have z8 := HLE.out
    have KB3 := Aside0.mk (KB2.out.trans (hb3.mono (by omega)))
    have HS0 := Aside0.mk (runs_start (base := w3.heap.size + 2) (blk_below Y4.out hb3) (blk_below Y5.out hb3) (blk_below Y6.out hb3) (blk_below Y2.out hb3) (blk_below Y3.out hb3))
    have HW3 : Aside0 (w.heap.size + 1 + 1 < w3.heap.size) := ⟨by omega⟩
    clear hI hb3 Y1 Y2 Y3 Y4 Y5 Y6 KB2
    obtain ⟨k1, k2, k3, k4, k5⟩ := HCK.out
    have hAd : ∀ ad, A = some ad → 0 < n → ad.block < w.heap.size := fun ad e h => C67_lt HR.out e h
    refine five_n L st A c l n HN.out bs bm bk bc km rfl k1 k2 k3 k4 k5 HI.out (fun b => b = gl ∨ b = gr ∨ b = bf) (by rintro b (rfl | rfl | rfl) <;> exact ⟨by omega, by omega, by omega, by omega, by omega, by omega, fun ad e h => by have := hAd ad e h; omega⟩)
      (fun pre W => RunsS (w.heap.size + 1) (w.heap.size + 1 + 1) bf gl gr (w3.heap.size + 2) n pre.isEmpty ((List.range n).map fun i => sp (lvAt pre i)) ((List.range n).map (rowsA pre)) W)
      (fun pre W W' hr hk => hr.kept hk (fun o => by rintro (h | h) <;> omega) (fun o => by rintro (h | h) <;> omega) (fun o => by rintro (h | h) <;> omega) (fun o => by rintro (h | h) <;> omega) (fun o => by rintro (h | h) <;> omega) (fun b cells hb => by rintro (h | h); exact h.2 rfl; omega)) HS0.out
      (fun x a' W => ∃ bx, a' = { tmps := #[.agg #[.int .i64 L, .int .i64 st, .slice A n c], .pointer (some ⟨w.heap.size, 0, none⟩), .pointer (some ⟨w.heap.size + 1, 0, none⟩), .pointer (some ⟨w.heap.size + 1 + 1, 0, none⟩), .int .i64 0, .int .i64 0, .pointer (some ⟨bf, 0, none⟩), .pointer (some ⟨bx, 0, none⟩), undef, undef, undef, undef, .agg #[.int .i64 L, .int .i64 st, .slice A n c], .int .i64 0, .int .i64 0, .bool false, undef, .pointer (some ⟨w.heap.size, 2, none⟩), .slice A n c, .int .i64 n, .slice (some ⟨gl, 0, none⟩) n n, .pointer (some ⟨w.heap.size, 2, none⟩), .slice A n c, .int .i64 n, .slice (some ⟨gr, 0, none⟩) n n, .agg #[.int .i64 L, .int .i64 st, .slice A n c], .func (.func 69) #[] #[.pointer (some ⟨bs, 0, none⟩), .pointer (some ⟨bm, 0, none⟩), .pointer (some ⟨bc, 0, none⟩)], hval L st A n c x, undef, undef, undef, undef, undef, undef, undef, undef, undef, undef, undef, undef, undef, undef, undef, undef, undef, undef, undef, undef, undef, undef, undef, undef, undef, undef, undef, undef, undef, undef, undef, undef, undef, undef, undef, undef, undef, undef, undef, undef, undef, undef, undef, undef, undef, undef, undef, undef, undef, undef, undef, undef, undef, undef, undef, undef, undef, undef, undef, undef, undef, undef, undef, undef, undef, undef, undef, undef, undef, undef, undef, undef, undef], defers := [] } ∧ w3.heap.size + 1 < bx ∧ W.heap[bx]? = some (.cells (hcells L st A n c x).toArray 88 (0, 0))) ?ax ?assign ?body ?done
    case ax =>
      rintro x a' W o ⟨bx, rfl, hb, hx⟩
      exact ⟨bx, rfl, hb, (World.putObj_heap_other (by omega)).trans hx⟩
    case assign =>
      intro x W m K hlt hx hK
      obtain ⟨v, hv⟩ : ∃ v, hval L st A n c x = v := ⟨_, rfl⟩
      have HV := Aside0.mk hv
      have HK := Aside0.mk hK
      have HX14 : Aside0 (x.length ≤ 14) := ⟨by have := HN14.out; omega⟩
      rw [hv]
      clear hv hK hx
      gi_wp2_with (refine storeNewIn_ (fun _ => trivial) 88 (.tmp 7) (.tmp 27) rfl rfl rfl (by simp [Act.eval]) (by rw [← HV.out]; rfl) (by rw [size88]; simp [hcells_len L st A n c x HX14.out]) (by simp [hcells_len L st A n c x HX14.out]) (hcells_one ..) ?_; intro w5 hw5 hb5 hz5; have HW5 := Aside0.mk hw5; have HB5 := Aside0.mk hb5; clear hw5 hb5 hz5)
      refine HK.out _ _ HB5.out ⟨W.heap.size, ?_, hlt, HW5.out⟩
      rw [← HV.out]
    case body =>
      rintro pre x a' W m hlt hch hcell ⟨bx, rfl, hbx, hrow⟩ hpre hx
      obtain ⟨v, hv⟩ : ∃ v, hval L st A n c x = v := ⟨_, rfl⟩
      have HX := Aside0.mk hx
      have HPRE := Aside0.mk hpre
      have HROW := Aside0.mk hrow
      rw [hv]
      have p0 : W.cell? ⟨bx, 2, none⟩ = some (.slice A n c) := (blk_cell hrow 2).trans rfl
      have HCELL := Aside0.mk hcell
      have hH : ∀ h ∈ pre ++ [x], h ∈ hists L st l := fun h hh => hpre.subset hh
      have HH := Aside0.mk hH
      obtain ⟨fb, hfb⟩ : ∃ fb, pre.isEmpty = fb := ⟨_, rfl⟩
      rw [hfb] at HCELL
      have HFB := Aside0.mk hfb
      clear hv hx hpre hcell hH hfb hrow
      gi_wp2_with fail
      gi_loopw [32] (fun j wr => ∃ jn : Nat, jn ≤ n ∧ j = .int .i64 jn ∧ Aside0 (RunsS (w.heap.size + 1) (w.heap.size + 1 + 1) bf gl gr (w3.heap.size + 2) n fb (mix (fun i => sp (lvAt pre i)) (fun i => sp (lvAt (pre ++ [x]) i)) n jn) (mix (rowsA pre) (rowsA (pre ++ [x])) n jn) wr) ∧ Aside0 (ChT (fun b o => (b = gl ∨ b = gr ∨ b = bf) ∨ (w3.heap.size + 2 ≤ b ∧ Row5 o)) W wr) ∧ Aside0 (wr.heap[bx]? = some (.cells (hcells L st A n c x).toArray 88 (0, 0)))) (fun j _ => n - (intOf j).toNat)
      case atStart => exact ⟨0, by omega, rfl, ⟨by rw [mix_0, mix_0]; exact HCELL.out⟩, ⟨ChT.refl _ _⟩, HROW⟩
      case round =>
        obtain ⟨jn, hj, rfl, HSr, HCr, HXr⟩ := hrel
        clear p0 HCELL HROW
        by_cases hj3 : jn < n
        · have hj4 : (jn : Int) < (n : Int) := by omega
          have hj5 : (0 : Int) ≤ (jn : Int) := by omega
          have hj6 : decide ((jn : Int) < (n : Int)) = true := decide_eq_true hj4
          have hj7 : (jn : Int) < 14 := by have := HN14.out; omega
          have HN63 : Aside0 ((n : Int) ≤ 14) := ⟨by have := HN14.out; omega⟩
          have hjx : jn < x.length := by have := HX.out; omega
          obtain ⟨m, hm⟩ : ∃ m, x[jn].2 = m := ⟨_, rfl⟩
          obtain ⟨r, hr⟩ : ∃ r, x[jn].1 = r := ⟨_, rfl⟩
          have g1 : wr.cell? ⟨bx, 17 + jn, none⟩ = some (.int .i64 m) := ((blk_cell HXr.out (17 + jn)).trans (hcells_level L st A n c x jn hjx (by have := HX.out; have := HN14.out; omega))).trans (by rw [hm])
          have HM := Aside0.mk (show (x.getD jn (0, 0)).2 = m by rw [List.getD_eq_getElem?_getD, List.getElem?_eq_getElem hjx]; exact hm)
          have HR1 := Aside0.mk (show (x.getD jn (0, 0)).1 = r by rw [List.getD_eq_getElem?_getD, List.getElem?_eq_getElem hjx]; exact hr)
          have HD : Aside0 (∀ w' : World, w'.heap[bx]? = some (.cells (hcells L st A n c x).toArray 88 (0, 0)) → w'.cell? ⟨bx, 3 + jn, none⟩ = some (.int .u8 r)) := ⟨fun w' h => ((blk_cell h (3 + jn)).trans (hcells_did L st A n c x jn hjx (by have := HX.out; have := HN14.out; omega))).trans (by rw [hr])⟩
          clear hm hr
          have g2 : wr.cell? ⟨bf, 0, none⟩ = some (.bool fb) := (blk_cell HSr.out.ft 0).trans rfl
          have g3 : wr.cell? ⟨w.heap.size + 1, 0, none⟩ = some (.slice (some ⟨gl, 0, none⟩) n n) := (blk_cell HSr.out.vL 0).trans rfl
          have HAT := Aside0.mk (mix_at (fun i => sp (lvAt pre i)) (fun i => sp (lvAt (pre ++ [x]) i)) n jn hj3)
          have g4 := (span_cell HSr.out.sp jn _ HAT.out).1
          have g5 := (span_cell HSr.out.sp jn _ HAT.out).2
          have g6 := blk_frozen HSr.out.sp (jn * 2)
          have g7 := blk_frozen HSr.out.sp (jn * 2 + 1)
          have HSET : Aside0 (∀ q, q = sp (lvAt (pre ++ [x]) jn) → ((mix (fun i => sp (lvAt pre i)) (fun i => sp (lvAt (pre ++ [x]) i)) n jn).set jn q) = (mix (fun i => sp (lvAt pre i)) (fun i => sp (lvAt (pre ++ [x]) i)) n (jn + 1))) := ⟨fun q hq => by rw [hq]; exact mix_set _ _ n jn hj3⟩
          cases fb
          case' false =>
            gi_wp2_with fail
            obtain ⟨wq, hwq⟩ : ∃ wq, wq = wr := ⟨_, rfl⟩
            subst hwq
            have HSq : Aside0 (∃ a0 b0 ps, (RunsS (w.heap.size + 1) (w.heap.size + 1 + 1) bf gl gr (w3.heap.size + 2) n false ps (mix (rowsA pre) (rowsA (pre ++ [x])) n jn) wq) ∧ ps[jn]? = some (a0, b0) ∧ (a0, b0) = (if pre = [] then (m, m) else sp (lvAt pre jn)) ∧ ∀ q, ps.set jn q = (mix (fun i => sp (lvAt pre i)) (fun i => sp (lvAt (pre ++ [x]) i)) n jn).set jn q) := ⟨(sp (lvAt pre jn)).1, (sp (lvAt pre jn)).2, _, HSr.out, HAT.out, (if_neg (show ¬ pre = [] by have := HFB.out; intro e; rw [e] at this; cases this)).symm, fun q => rfl⟩
            have HCq := HCr
            have HXq := HXr
            clear g1 g2 g3 g4 g5 g6 g7 HSr HCr HXr
          case' true =>
            gi_wp2_with fail
            have HSq : Aside0 (∃ a0 b0 ps, (RunsS (w.heap.size + 1) (w.heap.size + 1 + 1) bf gl gr (w3.heap.size + 2) n true ps (mix (rowsA pre) (rowsA (pre ++ [x])) n jn) ((wr.setCell ⟨gl, jn * 2, none⟩ (.int .i64 m)).setCell ⟨gl, jn * 2 + 1, none⟩ (.int .i64 m))) ∧ ps[jn]? = some (a0, b0) ∧ (a0, b0) = (if pre = [] then (m, m) else sp (lvAt pre jn)) ∧ ∀ q, ps.set jn q = (mix (fun i => sp (lvAt pre i)) (fun i => sp (lvAt (pre ++ [x]) i)) n jn).set jn q) := ⟨m, m, _, HSr.out.span jn m m, by rw [List.getElem?_set_self (by rw [mix_len]; exact hj3)], by rw [if_pos (by have := HFB.out; simpa using this)], fun q => by rw [List.set_set]⟩
            have HCq := Aside0.mk ((HCr.out.setCell ⟨gl, jn * 2, none⟩ (.int .i64 m) (fun _ _ => .inl (.inl rfl))).setCell ⟨gl, jn * 2 + 1, none⟩ (.int .i64 m) (fun _ _ => .inl (.inl rfl)))
            have hxl : bx ≠ gl := blk_ne HXr.out HSr.out.sp (by decide)
            have HXq := Aside0.mk (blk_far (p := ⟨gl, jn * 2 + 1, none⟩) (blk_far (p := ⟨gl, jn * 2, none⟩) HXr.out hxl (.int .i64 m)) hxl (.int .i64 m))
            clear g1 g2 g3 g4 g5 g6 g7 hxl HSr HCr HXr
            generalize ((wr.setCell ⟨gl, jn * 2, none⟩ (.int .i64 m)).setCell ⟨gl, jn * 2 + 1, none⟩ (.int .i64 m)) = wq at HSq HCq HXq ⊢
          all_goals
            obtain ⟨a0, b0, ps, hsq, hat, hab, hset⟩ := HSq.out
            have HAB := Aside0.mk hab
            have HSE := Aside0.mk hset
            replace HSq := Aside0.mk hsq
            have HP := Aside0.mk (And.intro (blk_lt hsq.vL) (And.intro ((blk_cell hsq.vL 0).trans rfl) (And.intro (blk_lt hsq.sp) (span_cell hsq.sp jn _ hat))))
            clear hab hset hsq hat
            refine startRd_ (n := 21) (S := (Below wq.heap.size wq)) (ds := [20]) #[false, false, false, false, false, false, false, false, false, false, false, false, false, false, false, false, false, false, false, false, false] (by kernel_rfl) rfl rfl ((Below.refl _ _).drew) rfl (fun hHeld => ?_)
            refine with_tabW f40.tab14 f40.bits14 (fun HT_ HW_ => ?_)
            refine take_ (i := 0) (N := some 46) (v := ?_) (a' := ?_) #[true, false, false, false, false, false, false, false, false, false, false, false, false, false, false, false, false, false, false, false, false] rfl rfl (take_ofW HT_.out HW_.out (by kernel_rfl)) (fun _ _ _ h => h) (Or.inl ⟨by rfl, ?_⟩) hHeld ?_ ?_
            rotate_left
            · rintro w' hS
              have s0 := (hS.cell (p := ⟨w.heap.size + 1, 0, none⟩) HP.out.1).trans HP.out.2.1
              have s1 := (hS.cell (p := ⟨gl, jn * 2, none⟩) HP.out.2.2.1).trans HP.out.2.2.2.1
              have s2 := (hS.cell (p := ⟨gl, jn * 2 + 1, none⟩) HP.out.2.2.1).trans HP.out.2.2.2.2
              clear hS
              go_simp
              with_reducible rfl
            rotate_left
            · simp only [Act.put, List.setIfInBounds_toArray, List.set_cons_zero, List.set_cons_succ, i64_w, i32_w]
              rfl
            refine take_ (i := 1) (N := some 47) (v := ?_) (a' := ?_) #[true, true, false, false, false, false, false, false, false, false, false, false, false, false, false, false, false, false, false, false, false] rfl rfl (take_ofW HT_.out HW_.out (by kernel_rfl)) (fun _ _ _ h => h) (Or.inl ⟨by rfl, ?_⟩) hHeld ?_ ?_
            rotate_left
            · rintro w' hS
              have s0 := (hS.cell (p := ⟨w.heap.size + 1, 0, none⟩) HP.out.1).trans HP.out.2.1
              have s1 := (hS.cell (p := ⟨gl, jn * 2, none⟩) HP.out.2.2.1).trans HP.out.2.2.2.1
              have s2 := (hS.cell (p := ⟨gl, jn * 2 + 1, none⟩) HP.out.2.2.1).trans HP.out.2.2.2.2
              clear hS
              go_simp
              with_reducible rfl
            rotate_left
            · simp only [Act.put, List.setIfInBounds_toArray, List.set_cons_zero, List.set_cons_succ, i64_w, i32_w]
              rfl
            refine take_ (i := 2) (N := some 48) (v := ?_) (a' := ?_) #[true, true, true, false, false, false, false, false, false, false, false, false, false, false, false, false, false, false, false, false, false] rfl rfl (take_ofW HT_.out HW_.out (by kernel_rfl)) (fun _ _ _ h => h) (Or.inl ⟨by rfl, ?_⟩) hHeld ?_ ?_
            rotate_left
            · rintro w' hS
              have s0 := (hS.cell (p := ⟨w.heap.size + 1, 0, none⟩) HP.out.1).trans HP.out.2.1
              have s1 := (hS.cell (p := ⟨gl, jn * 2, none⟩) HP.out.2.2.1).trans HP.out.2.2.2.1
              have s2 := (hS.cell (p := ⟨gl, jn * 2 + 1, none⟩) HP.out.2.2.1).trans HP.out.2.2.2.2
              clear hS
              go_simp
              with_reducible rfl
            rotate_left
            · simp only [Act.put, List.setIfInBounds_toArray, List.set_cons_zero, List.set_cons_succ, i64_w, i32_w]
              rfl
            refine take_ (i := 3) (N := some 49) (v := ?_) (a' := ?_) #[true, true, true, true, false, false, false, false, false, false, false, false, false, false, false, false, false, false, false, false, false] rfl rfl (take_ofW HT_.out HW_.out (by kernel_rfl)) (fun _ _ _ h => h) (Or.inl ⟨by rfl, ?_⟩) hHeld ?_ ?_
            rotate_left
            · rintro w' hS
              have s0 := (hS.cell (p := ⟨w.heap.size + 1, 0, none⟩) HP.out.1).trans HP.out.2.1
              have s1 := (hS.cell (p := ⟨gl, jn * 2, none⟩) HP.out.2.2.1).trans HP.out.2.2.2.1
              have s2 := (hS.cell (p := ⟨gl, jn * 2 + 1, none⟩) HP.out.2.2.1).trans HP.out.2.2.2.2
              clear hS
              go_simp
              with_reducible rfl
            rotate_left
            · simp only [Act.put, List.setIfInBounds_toArray, List.set_cons_zero, List.set_cons_succ, i64_w, i32_w]
              rfl
            refine take_ (i := 4) (N := some 50) (v := ?_) (a' := ?_) #[true, true, true, true, true, false, false, false, false, false, false, false, false, false, false, false, false, false, false, false, false] rfl rfl (take_ofW HT_.out HW_.out (by kernel_rfl)) (fun _ _ _ h => h) (Or.inl ⟨by rfl, ?_⟩) hHeld ?_ ?_
            rotate_left
            · rintro w' hS
              have s0 := (hS.cell (p := ⟨w.heap.size + 1, 0, none⟩) HP.out.1).trans HP.out.2.1
              have s1 := (hS.cell (p := ⟨gl, jn * 2, none⟩) HP.out.2.2.1).trans HP.out.2.2.2.1
              have s2 := (hS.cell (p := ⟨gl, jn * 2 + 1, none⟩) HP.out.2.2.1).trans HP.out.2.2.2.2
              clear hS
              go_simp
              with_reducible rfl
            rotate_left
            · simp only [Act.put, List.setIfInBounds_toArray, List.set_cons_zero, List.set_cons_succ, i64_w, i32_w]
              rfl
            refine take_ (i := 5) (N := some 51) (v := ?_) (a' := ?_) #[true, true, true, true, true, true, false, false, false, false, false, false, false, false, false, false, false, false, false, false, false] rfl rfl (take_ofW HT_.out HW_.out (by kernel_rfl)) (fun _ _ _ h => h) (Or.inl ⟨by rfl, ?_⟩) hHeld ?_ ?_
            rotate_left
            · rintro w' hS
              have s0 := (hS.cell (p := ⟨w.heap.size + 1, 0, none⟩) HP.out.1).trans HP.out.2.1
              have s1 := (hS.cell (p := ⟨gl, jn * 2, none⟩) HP.out.2.2.1).trans HP.out.2.2.2.1
              have s2 := (hS.cell (p := ⟨gl, jn * 2 + 1, none⟩) HP.out.2.2.1).trans HP.out.2.2.2.2
              clear hS
              go_simp
              with_reducible rfl
            rotate_left
            · simp only [Act.put, List.setIfInBounds_toArray, List.set_cons_zero, List.set_cons_succ, i64_w, i32_w]
              rfl
            refine take_ (i := 6) (N := some 52) (v := ?_) (a' := ?_) #[true, true, true, true, true, true, true, false, false, false, false, false, false, false, false, false, false, false, false, false, false] rfl rfl (take_ofW HT_.out HW_.out (by kernel_rfl)) (fun _ _ _ h => h) (Or.inl ⟨by rfl, ?_⟩) hHeld ?_ ?_
            rotate_left
            · rintro w' hS
              have s0 := (hS.cell (p := ⟨w.heap.size + 1, 0, none⟩) HP.out.1).trans HP.out.2.1
              have s1 := (hS.cell (p := ⟨gl, jn * 2, none⟩) HP.out.2.2.1).trans HP.out.2.2.2.1
              have s2 := (hS.cell (p := ⟨gl, jn * 2 + 1, none⟩) HP.out.2.2.1).trans HP.out.2.2.2.2
              clear hS
              go_simp
              with_reducible rfl
            rotate_left
            · simp only [Act.put, List.setIfInBounds_toArray, List.set_cons_zero, List.set_cons_succ, i64_w, i32_w]
              rfl
            refine take_ (i := 7) (N := some 53) (v := ?_) (a' := ?_) #[true, true, true, true, true, true, true, true, false, false, false, false, false, false, false, false, false, false, false, false, false] rfl rfl (take_ofW HT_.out HW_.out (by kernel_rfl)) (fun _ _ _ h => h) (Or.inl ⟨by rfl, ?_⟩) hHeld ?_ ?_
            rotate_left
            · rintro w' hS
              have s0 := (hS.cell (p := ⟨w.heap.size + 1, 0, none⟩) HP.out.1).trans HP.out.2.1
              have s1 := (hS.cell (p := ⟨gl, jn * 2, none⟩) HP.out.2.2.1).trans HP.out.2.2.2.1
              have s2 := (hS.cell (p := ⟨gl, jn * 2 + 1, none⟩) HP.out.2.2.1).trans HP.out.2.2.2.2
              clear hS
              go_simp
              with_reducible rfl
            rotate_left
            · simp only [Act.put, List.setIfInBounds_toArray, List.set_cons_zero, List.set_cons_succ, i64_w, i32_w]
              rfl
            refine take_ (i := 10) (N := some 56) (v := ?_) (a' := ?_) #[true, true, true, true, true, true, true, true, false, false, true, false, false, false, false, false, false, false, false, false, false] rfl rfl (take_ofW HT_.out HW_.out (by kernel_rfl)) (fun _ _ _ h => h) (Or.inl ⟨by rfl, ?_⟩) hHeld ?_ ?_
            rotate_left
            · rintro w' hS
              have s0 := (hS.cell (p := ⟨w.heap.size + 1, 0, none⟩) HP.out.1).trans HP.out.2.1
              have s1 := (hS.cell (p := ⟨gl, jn * 2, none⟩) HP.out.2.2.1).trans HP.out.2.2.2.1
              have s2 := (hS.cell (p := ⟨gl, jn * 2 + 1, none⟩) HP.out.2.2.1).trans HP.out.2.2.2.2
              clear hS
              go_simp
              with_reducible rfl
            rotate_left
            · simp only [Act.put, List.setIfInBounds_toArray, List.set_cons_zero, List.set_cons_succ, i64_w, i32_w]
              rfl
            refine take_ (i := 11) (N := some 57) (v := ?_) (a' := ?_) #[true, true, true, true, true, true, true, true, false, false, true, true, false, false, false, false, false, false, false, false, false] rfl rfl (take_ofW HT_.out HW_.out (by kernel_rfl)) (fun _ _ _ h => h) (Or.inl ⟨by rfl, ?_⟩) hHeld ?_ ?_
            rotate_left
            · rintro w' hS
              have s0 := (hS.cell (p := ⟨w.heap.size + 1, 0, none⟩) HP.out.1).trans HP.out.2.1
              have s1 := (hS.cell (p := ⟨gl, jn * 2, none⟩) HP.out.2.2.1).trans HP.out.2.2.2.1
              have s2 := (hS.cell (p := ⟨gl, jn * 2 + 1, none⟩) HP.out.2.2.1).trans HP.out.2.2.2.2
              clear hS
              go_simp
              with_reducible rfl
            rotate_left
            · simp only [Act.put, List.setIfInBounds_toArray, List.set_cons_zero, List.set_cons_succ, i64_w, i32_w]
              rfl
            refine take_ (i := 12) (N := some 58) (v := ?_) (a' := ?_) #[true, true, true, true, true, true, true, true, false, false, true, true, true, false, false, false, false, false, false, false, false] rfl rfl (take_ofW HT_.out HW_.out (by kernel_rfl)) (fun _ _ _ h => h) (Or.inl ⟨by rfl, ?_⟩) hHeld ?_ ?_
            rotate_left
            · rintro w' hS
              have s0 := (hS.cell (p := ⟨w.heap.size + 1, 0, none⟩) HP.out.1).trans HP.out.2.1
              have s1 := (hS.cell (p := ⟨gl, jn * 2, none⟩) HP.out.2.2.1).trans HP.out.2.2.2.1
              have s2 := (hS.cell (p := ⟨gl, jn * 2 + 1, none⟩) HP.out.2.2.1).trans HP.out.2.2.2.2
              clear hS
              go_simp
              with_reducible rfl
            rotate_left
            · simp only [Act.put, List.setIfInBounds_toArray, List.set_cons_zero, List.set_cons_succ, i64_w, i32_w]
              rfl
            refine take_ (i := 13) (N := some 59) (v := ?_) (a' := ?_) #[true, true, true, true, true, true, true, true, false, false, true, true, true, true, false, false, false, false, false, false, false] rfl rfl (take_ofW HT_.out HW_.out (by kernel_rfl)) (fun _ _ _ h => h) (Or.inl ⟨by rfl, ?_⟩) hHeld ?_ ?_
            rotate_left
            · rintro w' hS
              have s0 := (hS.cell (p := ⟨w.heap.size + 1, 0, none⟩) HP.out.1).trans HP.out.2.1
              have s1 := (hS.cell (p := ⟨gl, jn * 2, none⟩) HP.out.2.2.1).trans HP.out.2.2.2.1
              have s2 := (hS.cell (p := ⟨gl, jn * 2 + 1, none⟩) HP.out.2.2.1).trans HP.out.2.2.2.2
              clear hS
              go_simp
              with_reducible rfl
            rotate_left
            · simp only [Act.put, List.setIfInBounds_toArray, List.set_cons_zero, List.set_cons_succ, i64_w, i32_w]
              rfl
            refine take_ (i := 14) (N := some 60) (v := ?_) (a' := ?_) #[true, true, true, true, true, true, true, true, false, false, true, true, true, true, true, false, false, false, false, false, false] rfl rfl (take_ofW HT_.out HW_.out (by kernel_rfl)) (fun _ _ _ h => h) (Or.inl ⟨by rfl, ?_⟩) hHeld ?_ ?_
            rotate_left
            · rintro w' hS
              have s0 := (hS.cell (p := ⟨w.heap.size + 1, 0, none⟩) HP.out.1).trans HP.out.2.1
              have s1 := (hS.cell (p := ⟨gl, jn * 2, none⟩) HP.out.2.2.1).trans HP.out.2.2.2.1
              have s2 := (hS.cell (p := ⟨gl, jn * 2 + 1, none⟩) HP.out.2.2.1).trans HP.out.2.2.2.2
              clear hS
              go_simp
              with_reducible rfl
            rotate_left
            · simp only [Act.put, List.setIfInBounds_toArray, List.set_cons_zero, List.set_cons_succ, i64_w, i32_w]
              rfl
            refine take_ (i := 15) (N := some 61) (v := ?_) (a' := ?_) #[true, true, true, true, true, true, true, true, false, false, true, true, true, true, true, true, false, false, false, false, false] rfl rfl (take_ofW HT_.out HW_.out (by kernel_rfl)) (fun _ _ _ h => h) (Or.inl ⟨by rfl, ?_⟩) hHeld ?_ ?_
            rotate_left
            · rintro w' hS
              have s0 := (hS.cell (p := ⟨w.heap.size + 1, 0, none⟩) HP.out.1).trans HP.out.2.1
              have s1 := (hS.cell (p := ⟨gl, jn * 2, none⟩) HP.out.2.2.1).trans HP.out.2.2.2.1
              have s2 := (hS.cell (p := ⟨gl, jn * 2 + 1, none⟩) HP.out.2.2.1).trans HP.out.2.2.2.2
              clear hS
              go_simp
              with_reducible rfl
            rotate_left
            · simp only [Act.put, List.setIfInBounds_toArray, List.set_cons_zero, List.set_cons_succ, i64_w, i32_w]
              rfl
            refine join_ (σ := Nat × Nat) 4 #[true, true, true, true, true, true, true, true, true, true, true, true, true, true, true, true, true, false, false, false, false] (fun s_ => [(54, .slice (some ⟨s_.1, 0, none⟩) 2 2), (55, .int .i64 (min a0 m)), (62, .slice (some ⟨s_.2, 0, none⟩) 2 2)]) (fun s_ w' => Below wq.heap.size wq w' ∧ Kd.C (Kd.int .i64) w' (some ⟨s_.2, 0, none⟩) 2 [b0, m]) ?_ ?_
            rotate_left
            · intro hCont
              refine two_ (i := 8) (j := 16) (Ni := some 54) (Nj := some 62) #[true, true, true, true, true, true, true, true, true, false, true, true, true, true, true, true, false, false, false, false, false] #[true, true, true, true, true, true, true, true, false, false, true, true, true, true, true, true, true, false, false, false, false] rfl rfl rfl rfl (two_of HT_.out (by kernel_rfl)) (by decide) (by decide) (fun K hK => ?_) (fun K hK => ?_)
              · refine slice2_step ?hg (N := 54) ?hd (x := .int .i64 a0) (y := .int .i64 m) (t := 3) ?hr ?_; (case hd => rfl); (case hg => rfl); (case hr => first | (go_simp; done) | (go_simp; rfl))
                intro g1 w26 hbx hb
                have HG1 := Aside0.mk (C2 hbx)
                refine hK.out _ _ (hHeld.trans (hb.mono hHeld.size)) ?_
                clear hHeld hbx hb
                intro hHeld
                clear hK K
                refine norm_ (a' := ?_) ?_ ?_
                rotate_left
                · show Act.put _ (some 54) _ = _
                  simp only [Act.put, List.setIfInBounds_toArray, List.set_cons_zero, List.set_cons_succ, i64_w, i32_w]
                  rfl
                refine two_ (i := 9) (j := 16) (Ni := some 55) (Nj := some 62) #[true, true, true, true, true, true, true, true, true, true, true, true, true, true, true, true, false, false, false, false, false] #[true, true, true, true, true, true, true, true, true, false, true, true, true, true, true, true, true, false, false, false, false] rfl rfl rfl rfl (two_of HT_.out (by kernel_rfl)) (by decide) (by decide) (fun K hK => ?_) (fun K hK => ?_)
                · refine goes_ Try.func48 (by kernel_rfl) rfl #[.slice (some ⟨g1, 0, none⟩) 2 2] (by rfl) rfl rfl (by (try simp only [List.map_toArray, List.map_cons, List.map_nil]); first | done | rfl) ?_
                  refine (stair_least.calls 3 (some ⟨g1, 0, none⟩) 2 [a0, m] _ _ HG1.out (by simp) (least2 a0 m)).mono ?_
                  rintro e w27 ⟨rfl, hb⟩
                  refine ⟨_, rfl, hK.out _ _ (hHeld.trans (hb.mono hHeld.size)) ?_⟩
                  clear hHeld hb
                  intro hHeld
                  clear hK K
                  refine norm_ (a' := ?_) ?_ ?_
                  rotate_left
                  · show Act.put _ (some 55) _ = _
                    simp only [Act.put, List.setIfInBounds_toArray, List.set_cons_zero, List.set_cons_succ, i64_w, i32_w]
                    rfl
                  refine one_ (i := 16) (N := some 62) #[true, true, true, true, true, true, true, true, true, true, true, true, true, true, true, true, true, false, false, false, false] rfl rfl (one_of HT_.out (by kernel_rfl)) (by decide) (fun K hK => ?_)
                  refine slice2_step ?hg (N := 62) ?hd (x := .int .i64 b0) (y := .int .i64 m) (t := 3) ?hr ?_; (case hd => rfl); (case hg => rfl); (case hr => first | (go_simp; done) | (go_simp; rfl))
                  intro g2 w26 hbx hb
                  have HG2 := Aside0.mk (C2 hbx)
                  refine hK.out _ _ (hHeld.trans (hb.mono hHeld.size)) ?_
                  clear hHeld hbx hb
                  intro hHeld
                  clear hK K
                  refine norm_ (a' := ?_) ?_ ?_
                  rotate_left
                  · show Act.put _ (some 62) _ = _
                    simp only [Act.put, List.setIfInBounds_toArray, List.set_cons_zero, List.set_cons_succ, i64_w, i32_w]
                    rfl
                  exact norm_ (by simp only [putAll, Act.put, List.setIfInBounds_toArray, List.set_cons_zero, List.set_cons_succ]) (hCont (g1, g2) _ ⟨hHeld, HG2.out⟩)
                · refine slice2_step ?hg (N := 62) ?hd (x := .int .i64 b0) (y := .int .i64 m) (t := 3) ?hr ?_; (case hd => rfl); (case hg => rfl); (case hr => first | (go_simp; done) | (go_simp; rfl))
                  intro g2 w26 hbx hb
                  have HG2 := Aside0.mk (C2 hbx)
                  replace HG1 := Aside0.mk (Kd.C_below HG1.out hb)
                  refine hK.out _ _ (hHeld.trans (hb.mono hHeld.size)) ?_
                  clear hHeld hbx hb
                  intro hHeld
                  clear hK K
                  refine norm_ (a' := ?_) ?_ ?_
                  rotate_left
                  · show Act.put _ (some 62) _ = _
                    simp only [Act.put, List.setIfInBounds_toArray, List.set_cons_zero, List.set_cons_succ, i64_w, i32_w]
                    rfl
                  refine one_ (i := 9) (N := some 55) #[true, true, true, true, true, true, true, true, true, true, true, true, true, true, true, true, true, false, false, false, false] rfl rfl (one_of HT_.out (by kernel_rfl)) (by decide) (fun K hK => ?_)
                  refine goes_ Try.func48 (by kernel_rfl) rfl #[.slice (some ⟨g1, 0, none⟩) 2 2] (by rfl) rfl rfl (by (try simp only [List.map_toArray, List.map_cons, List.map_nil]); first | done | rfl) ?_
                  refine (stair_least.calls 3 (some ⟨g1, 0, none⟩) 2 [a0, m] _ _ HG1.out (by simp) (least2 a0 m)).mono ?_
                  rintro e w27 ⟨rfl, hb⟩
                  replace HG2 := Aside0.mk (Kd.C_below HG2.out hb)
                  refine ⟨_, rfl, hK.out _ _ (hHeld.trans (hb.mono hHeld.size)) ?_⟩
                  clear hHeld hb
                  intro hHeld
                  clear hK K
                  refine norm_ (a' := ?_) ?_ ?_
                  rotate_left
                  · show Act.put _ (some 55) _ = _
                    simp only [Act.put, List.setIfInBounds_toArray, List.set_cons_zero, List.set_cons_succ, i64_w, i32_w]
                    rfl
                  exact norm_ (by simp only [putAll, Act.put, List.setIfInBounds_toArray, List.set_cons_zero, List.set_cons_succ]) (hCont (g1, g2) _ ⟨hHeld, HG2.out⟩)
              · refine slice2_step ?hg (N := 62) ?hd (x := .int .i64 b0) (y := .int .i64 m) (t := 3) ?hr ?_; (case hd => rfl); (case hg => rfl); (case hr => first | (go_simp; done) | (go_simp; rfl))
                intro g2 w26 hbx hb
                have HG2 := Aside0.mk (C2 hbx)
                refine hK.out _ _ (hHeld.trans (hb.mono hHeld.size)) ?_
                clear hHeld hbx hb
                intro hHeld
                clear hK K
                refine norm_ (a' := ?_) ?_ ?_
                rotate_left
                · show Act.put _ (some 62) _ = _
                  simp only [Act.put, List.setIfInBounds_toArray, List.set_cons_zero, List.set_cons_succ, i64_w, i32_w]
                  rfl
                refine one_ (i := 8) (N := some 54) #[true, true, true, true, true, true, true, true, true, false, true, true, true, true, true, true, true, false, false, false, false] rfl rfl (one_of HT_.out (by kernel_rfl)) (by decide) (fun K hK => ?_)
                refine slice2_step ?hg (N := 54) ?hd (x := .int .i64 a0) (y := .int .i64 m) (t := 3) ?hr ?_; (case hd => rfl); (case hg => rfl); (case hr => first | (go_simp; done) | (go_simp; rfl))
                intro g1 w26 hbx hb
                have HG1 := Aside0.mk (C2 hbx)
                replace HG2 := Aside0.mk (Kd.C_below HG2.out hb)
                refine hK.out _ _ (hHeld.trans (hb.mono hHeld.size)) ?_
                clear hHeld hbx hb
                intro hHeld
                clear hK K
                refine norm_ (a' := ?_) ?_ ?_
                rotate_left
                · show Act.put _ (some 54) _ = _
                  simp only [Act.put, List.setIfInBounds_toArray, List.set_cons_zero, List.set_cons_succ, i64_w, i32_w]
                  rfl
                refine one_ (i := 9) (N := some 55) #[true, true, true, true, true, true, true, true, true, true, true, true, true, true, true, true, true, false, false, false, false] rfl rfl (one_of HT_.out (by kernel_rfl)) (by decide) (fun K hK => ?_)
                refine goes_ Try.func48 (by kernel_rfl) rfl #[.slice (some ⟨g1, 0, none⟩) 2 2] (by rfl) rfl rfl (by (try simp only [List.map_toArray, List.map_cons, List.map_nil]); first | done | rfl) ?_
                refine (stair_least.calls 3 (some ⟨g1, 0, none⟩) 2 [a0, m] _ _ HG1.out (by simp) (least2 a0 m)).mono ?_
                rintro e w27 ⟨rfl, hb⟩
                replace HG2 := Aside0.mk (Kd.C_below HG2.out hb)
                refine ⟨_, rfl, hK.out _ _ (hHeld.trans (hb.mono hHeld.size)) ?_⟩
                clear hHeld hb
                intro hHeld
                clear hK K
                refine norm_ (a' := ?_) ?_ ?_
                rotate_left
                · show Act.put _ (some 55) _ = _
                  simp only [Act.put, List.setIfInBounds_toArray, List.set_cons_zero, List.set_cons_succ, i64_w, i32_w]
                  rfl
                exact norm_ (by simp only [putAll, Act.put, List.setIfInBounds_toArray, List.set_cons_zero, List.set_cons_succ]) (hCont (g1, g2) _ ⟨hHeld, HG2.out⟩)
            rintro ⟨g1, g2⟩ w30 ⟨hHeld, hg2⟩
            have HG2 := Aside0.mk hg2
            clear hg2
            refine norm_ (a' := ?_) ?_ ?_
            rotate_left
            · simp only [putAll, Act.put, List.setIfInBounds_toArray, List.set_cons_zero, List.set_cons_succ]
              rfl
            refine one_ (i := 17) (N := some 63) #[true, true, true, true, true, true, true, true, true, true, true, true, true, true, true, true, true, true, false, false, false] rfl rfl (one_of HT_.out (by kernel_rfl)) (by decide) (fun K hK => ?_)
            refine goes_ Try.func49 (by kernel_rfl) rfl #[.slice (some ⟨g2, 0, none⟩) 2 2] (by rfl) rfl rfl (by (try simp only [List.map_toArray, List.map_cons, List.map_nil]); first | done | rfl) ?_
            refine (stair_greatest.calls 3 (some ⟨g2, 0, none⟩) 2 [b0, m] _ _ HG2.out (by simp) (greatest2 b0 m)).mono ?_
            rintro e w27 ⟨rfl, hb⟩
            refine ⟨_, rfl, hK.out _ _ (hHeld.trans (hb.mono hHeld.size)) ?_⟩
            clear hHeld hb
            intro hHeld
            clear hK K
            refine norm_ (a' := ?_) ?_ ?_
            rotate_left
            · show Act.put _ (some 63) _ = _
              simp only [Act.put, List.setIfInBounds_toArray, List.set_cons_zero, List.set_cons_succ, i64_w, i32_w]
              rfl
            refine take_ (i := 18) (N := some 64) (v := ?_) (a' := ?_) #[true, true, true, true, true, true, true, true, true, true, true, true, true, true, true, true, true, true, true, false, false] rfl rfl (take_ofW HT_.out HW_.out (by kernel_rfl)) (fun _ _ _ h => h) (Or.inl ⟨by rfl, ?_⟩) hHeld ?_ ?_
            rotate_left
            · rintro w' hS
              have s0 := (hS.cell (p := ⟨w.heap.size + 1, 0, none⟩) HP.out.1).trans HP.out.2.1
              have s1 := (hS.cell (p := ⟨gl, jn * 2, none⟩) HP.out.2.2.1).trans HP.out.2.2.2.1
              have s2 := (hS.cell (p := ⟨gl, jn * 2 + 1, none⟩) HP.out.2.2.1).trans HP.out.2.2.2.2
              clear hS
              go_simp
              with_reducible rfl
            rotate_left
            · simp only [Act.put, List.setIfInBounds_toArray, List.set_cons_zero, List.set_cons_succ, i64_w, i32_w]
              rfl
            refine take_ (i := 19) (N := some 65) (v := ?_) (a' := ?_) #[true, true, true, true, true, true, true, true, true, true, true, true, true, true, true, true, true, true, true, true, false] rfl rfl (take_ofW HT_.out HW_.out (by kernel_rfl)) (fun _ _ _ h => h) (Or.inl ⟨by rfl, ?_⟩) hHeld ?_ ?_
            rotate_left
            · rintro w' hS
              have s0 := (hS.cell (p := ⟨w.heap.size + 1, 0, none⟩) HP.out.1).trans HP.out.2.1
              have s1 := (hS.cell (p := ⟨gl, jn * 2, none⟩) HP.out.2.2.1).trans HP.out.2.2.2.1
              have s2 := (hS.cell (p := ⟨gl, jn * 2 + 1, none⟩) HP.out.2.2.1).trans HP.out.2.2.2.2
              clear hS
              go_simp
              with_reducible rfl
            rotate_left
            · simp only [Act.put, List.setIfInBounds_toArray, List.set_cons_zero, List.set_cons_succ, i64_w, i32_w]
              rfl
            have HS14 := Aside0.mk (HSq.out.below hHeld)
            have HX14 := Aside0.mk (blk_below HXq.out hHeld)
            have HC14 := Aside0.mk (HCq.out.trans (.of_below hHeld))
            have t1 := (hHeld.cell (p := ⟨gl, jn * 2, none⟩) HP.out.2.2.1).trans HP.out.2.2.2.1
            have t2 := (hHeld.cell (p := ⟨gl, jn * 2 + 1, none⟩) HP.out.2.2.1).trans HP.out.2.2.2.2
            have t3 := blk_frozen HS14.out.sp (jn * 2)
            have t4 := blk_frozen HS14.out.sp (jn * 2 + 1)
            refine last_ (i := 20) (N := none) #[true, true, true, true, true, true, true, true, true, true, true, true, true, true, true, true, true, true, true, true, true] rfl rfl (one_of HT_.out (by kernel_rfl)) (by decide) (fun K hK => ?_)
            refine skip_ (w1 := ?_) (by rfl) rfl ?_ ?_
            rotate_left
            · go_simp
              rfl
            refine hK.out _ _ ?_
            clear hK K
            refine done_ (done_of HT_.out (by kernel_rfl)) ?_
            refine onlyN_mk ?_
            have HQ := Aside0.mk (sp_more pre x jn m HM.out (a0, b0) HAB.out)
            have HS5 := Aside0.mk (HS14.out.span jn (min a0 m) (max b0 m))
            rw [HSE.out, HSET.out _ HQ.out.symm] at HS5
            have HC5 := Aside0.mk ((HC14.out.setCell ⟨gl, jn * 2, none⟩ (.int .i64 (min a0 m)) (fun _ _ => .inl (.inl rfl))).setCell ⟨gl, jn * 2 + 1, none⟩ (.int .i64 (max b0 m)) (fun _ _ => .inl (.inl rfl)))
            have hxl : bx ≠ gl := blk_ne HX14.out HS14.out.sp (by decide)
            have HX5 := Aside0.mk (blk_far (p := ⟨gl, jn * 2 + 1, none⟩) (blk_far (p := ⟨gl, jn * 2, none⟩) HX14.out hxl (.int .i64 (min a0 m))) hxl (.int .i64 (max b0 m)))
            clear hHeld t1 t2 t3 t4 HS14 HX14 HC14 HP HQ HG2 hxl HSq HCq HXq HAB HSE
            generalize ((w27.setCell ⟨gl, jn * 2, none⟩ (.int .i64 (min a0 m))).setCell ⟨gl, jn * 2 + 1, none⟩ (.int .i64 (max b0 m))) = w5 at HS5 HC5 HX5 ⊢
            obtain ⟨rows, hgrid, hrows⟩ := HS5.out.gd
            obtain ⟨v1, hv1⟩ := grid_at hrows (mix_at (rowsA pre) (rowsA (pre ++ [x])) n jn hj3)
            have hcell := hgrid.cell jn hv1
            have hRv := hgrid.own jn _ _ hv1
            obtain ⟨Av, cv, rfl, hle, hCv⟩ := Kd.R_reads hRv
            have hl3 := addR_len (rsAt pre jn) (rowsA_range k3 k4 (fun h hh => HH.out h (List.mem_append_left _ hh)) jn (by rw [HN.out]; exact hj3))
            obtain ⟨k, hk⟩ : ∃ k, (rowsA pre jn).length = k := ⟨_, rfl⟩
            rw [hk] at hcell hRv hCv hv1
            have HL3 : Aside0 (k ≤ 3) := ⟨hk ▸ hl3⟩
            have HLK := Aside0.mk hk
            have HRV := Aside0.mk hCv
            have HRW := Aside0.mk hRv
            have HGD : Aside0 (GridAt (w3.heap.size + 2) gr jn (.slice Av k cv) (rowsA pre jn) (mix (rowsA pre) (rowsA (pre ++ [x])) n jn) w5) := ⟨rows, hgrid, hrows, hv1⟩
            have HP := Aside0.mk (And.intro (blk_lt HS5.out.vR) (And.intro ((blk_cell HS5.out.vR 0).trans rfl) (And.intro (blk_lt hgrid.blk) (And.intro hcell (And.intro (blk_lt HX5.out) (HD.out _ HX5.out))))))
            obtain ⟨db, hdb⟩ : ∃ db, decide (r ∈ rowsA pre jn) = db := ⟨_, rfl⟩
            have HDB := Aside0.mk hdb
            clear hgrid hrows hv1 hcell hRv hle hCv hl3 hk hdb
            gi_wp2_with fail
            refine startRd_ (n := 10) (S := (Below w5.heap.size w5)) (ds := []) #[false, false, false, false, false, false, false, false, false, false] (by kernel_rfl) rfl rfl ((Below.refl _ _).drew) rfl (fun hHeld => ?_)
            refine with_tabW f40.tab15 f40.bits15 (fun HT_ HW_ => ?_)
            refine take_ (i := 0) (N := some 66) (v := ?_) (a' := ?_) #[true, false, false, false, false, false, false, false, false, false] rfl rfl (take_ofW HT_.out HW_.out (by kernel_rfl)) (fun _ _ _ h => h) (Or.inl ⟨by rfl, ?_⟩) hHeld ?_ ?_
            rotate_left
            · rintro w' hS
              have s0 := (hS.cell (p := ⟨w.heap.size + 1 + 1, 0, none⟩) HP.out.1).trans HP.out.2.1
              have s1 := (hS.cell (p := ⟨gr, jn, none⟩) HP.out.2.2.1).trans HP.out.2.2.2.1
              have s2 := (hS.cell (p := ⟨bx, 3 + jn, none⟩) HP.out.2.2.2.2.1).trans HP.out.2.2.2.2.2
              clear hS
              go_simp
              with_reducible rfl
            rotate_left
            · simp only [Act.put, List.setIfInBounds_toArray, List.set_cons_zero, List.set_cons_succ, i64_w, i32_w]
              rfl
            refine take_ (i := 1) (N := some 67) (v := ?_) (a' := ?_) #[true, true, false, false, false, false, false, false, false, false] rfl rfl (take_ofW HT_.out HW_.out (by kernel_rfl)) (fun _ _ _ h => h) (Or.inl ⟨by rfl, ?_⟩) hHeld ?_ ?_
            rotate_left
            · rintro w' hS
              have s0 := (hS.cell (p := ⟨w.heap.size + 1 + 1, 0, none⟩) HP.out.1).trans HP.out.2.1
              have s1 := (hS.cell (p := ⟨gr, jn, none⟩) HP.out.2.2.1).trans HP.out.2.2.2.1
              have s2 := (hS.cell (p := ⟨bx, 3 + jn, none⟩) HP.out.2.2.2.2.1).trans HP.out.2.2.2.2.2
              clear hS
              go_simp
              with_reducible rfl
            rotate_left
            · simp only [Act.put, List.setIfInBounds_toArray, List.set_cons_zero, List.set_cons_succ, i64_w, i32_w]
              rfl
            refine take_ (i := 2) (N := some 68) (v := ?_) (a' := ?_) #[true, true, true, false, false, false, false, false, false, false] rfl rfl (take_ofW HT_.out HW_.out (by kernel_rfl)) (fun _ _ _ h => h) (Or.inl ⟨by rfl, ?_⟩) hHeld ?_ ?_
            rotate_left
            · rintro w' hS
              have s0 := (hS.cell (p := ⟨w.heap.size + 1 + 1, 0, none⟩) HP.out.1).trans HP.out.2.1
              have s1 := (hS.cell (p := ⟨gr, jn, none⟩) HP.out.2.2.1).trans HP.out.2.2.2.1
              have s2 := (hS.cell (p := ⟨bx, 3 + jn, none⟩) HP.out.2.2.2.2.1).trans HP.out.2.2.2.2.2
              clear hS
              go_simp
              with_reducible rfl
            rotate_left
            · simp only [Act.put, List.setIfInBounds_toArray, List.set_cons_zero, List.set_cons_succ, i64_w, i32_w]
              rfl
            refine take_ (i := 3) (N := some 69) (v := ?_) (a' := ?_) #[true, true, true, true, false, false, false, false, false, false] rfl rfl (take_ofW HT_.out HW_.out (by kernel_rfl)) (fun _ _ _ h => h) (Or.inl ⟨by rfl, ?_⟩) hHeld ?_ ?_
            rotate_left
            · rintro w' hS
              have s0 := (hS.cell (p := ⟨w.heap.size + 1 + 1, 0, none⟩) HP.out.1).trans HP.out.2.1
              have s1 := (hS.cell (p := ⟨gr, jn, none⟩) HP.out.2.2.1).trans HP.out.2.2.2.1
              have s2 := (hS.cell (p := ⟨bx, 3 + jn, none⟩) HP.out.2.2.2.2.1).trans HP.out.2.2.2.2.2
              clear hS
              go_simp
              with_reducible rfl
            rotate_left
            · simp only [Act.put, List.setIfInBounds_toArray, List.set_cons_zero, List.set_cons_succ, i64_w, i32_w]
              rfl
            refine take_ (i := 4) (N := some 70) (v := ?_) (a' := ?_) #[true, true, true, true, true, false, false, false, false, false] rfl rfl (take_ofW HT_.out HW_.out (by kernel_rfl)) (fun _ _ _ h => h) (Or.inl ⟨by rfl, ?_⟩) hHeld ?_ ?_
            rotate_left
            · rintro w' hS
              have s0 := (hS.cell (p := ⟨w.heap.size + 1 + 1, 0, none⟩) HP.out.1).trans HP.out.2.1
              have s1 := (hS.cell (p := ⟨gr, jn, none⟩) HP.out.2.2.1).trans HP.out.2.2.2.1
              have s2 := (hS.cell (p := ⟨bx, 3 + jn, none⟩) HP.out.2.2.2.2.1).trans HP.out.2.2.2.2.2
              clear hS
              go_simp
              with_reducible rfl
            rotate_left
            · simp only [Act.put, List.setIfInBounds_toArray, List.set_cons_zero, List.set_cons_succ, i64_w, i32_w]
              rfl
            refine take_ (i := 5) (N := some 71) (v := ?_) (a' := ?_) #[true, true, true, true, true, true, false, false, false, false] rfl rfl (take_ofW HT_.out HW_.out (by kernel_rfl)) (fun _ _ _ h => h) (Or.inl ⟨by rfl, ?_⟩) hHeld ?_ ?_
            rotate_left
            · rintro w' hS
              have s0 := (hS.cell (p := ⟨w.heap.size + 1 + 1, 0, none⟩) HP.out.1).trans HP.out.2.1
              have s1 := (hS.cell (p := ⟨gr, jn, none⟩) HP.out.2.2.1).trans HP.out.2.2.2.1
              have s2 := (hS.cell (p := ⟨bx, 3 + jn, none⟩) HP.out.2.2.2.2.1).trans HP.out.2.2.2.2.2
              clear hS
              go_simp
              with_reducible rfl
            rotate_left
            · simp only [Act.put, List.setIfInBounds_toArray, List.set_cons_zero, List.set_cons_succ, i64_w, i32_w]
              rfl
            refine take_ (i := 6) (N := some 72) (v := ?_) (a' := ?_) #[true, true, true, true, true, true, true, false, false, false] rfl rfl (take_ofW HT_.out HW_.out (by kernel_rfl)) (fun _ _ _ h => h) (Or.inl ⟨by rfl, ?_⟩) hHeld ?_ ?_
            rotate_left
            · rintro w' hS
              have s0 := (hS.cell (p := ⟨w.heap.size + 1 + 1, 0, none⟩) HP.out.1).trans HP.out.2.1
              have s1 := (hS.cell (p := ⟨gr, jn, none⟩) HP.out.2.2.1).trans HP.out.2.2.2.1
              have s2 := (hS.cell (p := ⟨bx, 3 + jn, none⟩) HP.out.2.2.2.2.1).trans HP.out.2.2.2.2.2
              clear hS
              go_simp
              with_reducible rfl
            rotate_left
            · simp only [Act.put, List.setIfInBounds_toArray, List.set_cons_zero, List.set_cons_succ, i64_w, i32_w]
              rfl
            refine take_ (i := 7) (N := some 73) (v := ?_) (a' := ?_) #[true, true, true, true, true, true, true, true, false, false] rfl rfl (take_ofW HT_.out HW_.out (by kernel_rfl)) (fun _ _ _ h => h) (Or.inl ⟨by rfl, ?_⟩) hHeld ?_ ?_
            rotate_left
            · rintro w' hS
              have s0 := (hS.cell (p := ⟨w.heap.size + 1 + 1, 0, none⟩) HP.out.1).trans HP.out.2.1
              have s1 := (hS.cell (p := ⟨gr, jn, none⟩) HP.out.2.2.1).trans HP.out.2.2.2.1
              have s2 := (hS.cell (p := ⟨bx, 3 + jn, none⟩) HP.out.2.2.2.2.1).trans HP.out.2.2.2.2.2
              clear hS
              go_simp
              with_reducible rfl
            rotate_left
            · simp only [Act.put, List.setIfInBounds_toArray, List.set_cons_zero, List.set_cons_succ, i64_w, i32_w]
              rfl
            refine one_ (i := 8) (N := some 74) #[true, true, true, true, true, true, true, true, true, false] rfl rfl (one_of HT_.out (by kernel_rfl)) (by decide) (fun K hK => ?_)
            refine goes_ Try.func66 (by kernel_rfl) rfl #[.slice Av k cv, .int .u8 r] (by rfl) rfl rfl (by (try simp only [List.map_toArray, List.map_cons, List.map_nil]); first | done | rfl) ?_
            refine (contains8k Av cv k (rowsA pre jn) r db HDB.out _ HLK.out HL3.out (Kd.C_below HRV.out hHeld)).mono ?_
            rintro e w27 ⟨rfl, rfl⟩
            refine ⟨_, rfl, hK.out _ _ hHeld ?_⟩
            clear hHeld
            intro hHeld
            clear hK K
            refine norm_ (a' := ?_) ?_ ?_
            rotate_left
            · show Act.put _ (some 74) _ = _
              simp only [Act.put, List.setIfInBounds_toArray, List.set_cons_zero, List.set_cons_succ, i64_w, i32_w]
              rfl
            refine take_ (i := 9) (N := some 75) (v := ?_) (a' := ?_) #[true, true, true, true, true, true, true, true, true, true] rfl rfl (take_ofW HT_.out HW_.out (by kernel_rfl)) (fun _ _ _ h => h) (Or.inl ⟨by rfl, ?_⟩) hHeld ?_ ?_
            rotate_left
            · rintro w' hS
              have s0 := (hS.cell (p := ⟨w.heap.size + 1 + 1, 0, none⟩) HP.out.1).trans HP.out.2.1
              have s1 := (hS.cell (p := ⟨gr, jn, none⟩) HP.out.2.2.1).trans HP.out.2.2.2.1
              have s2 := (hS.cell (p := ⟨bx, 3 + jn, none⟩) HP.out.2.2.2.2.1).trans HP.out.2.2.2.2.2
              clear hS
              go_simp
              with_reducible rfl
            rotate_left
            · simp only [Act.put, List.setIfInBounds_toArray, List.set_cons_zero, List.set_cons_succ, i64_w, i32_w]
              rfl
            refine done_ (done_of HT_.out (by kernel_rfl)) ?_
            refine onlyN_mk ?_
            have HS6 := Aside0.mk (HS5.out.below hHeld)
            have HC6 := Aside0.mk (HC5.out.trans (.of_below hHeld))
            have HX6 := Aside0.mk (blk_below HX5.out hHeld)
            have HRV2 := Aside0.mk (Kd.R_below HRW.out hHeld)
            have HGD6 : Aside0 (GridAt (w3.heap.size + 2) gr jn (.slice Av k cv) (rowsA pre jn) (mix (rowsA pre) (rowsA (pre ++ [x])) n jn) w5.drew) := ⟨by
              obtain ⟨rows, h1, h2, h3⟩ := HGD.out
              exact ⟨rows, h1.below hHeld, h2, h3⟩⟩
            clear hHeld HS5 HC5 HX5 HRV HRW HGD HP
            generalize w5.drew = w6 at HS6 HC6 HX6 HRV2 HGD6 ⊢
            cases db
            case' true =>
              gi_wp2_with fail
              refine ⟨⟨jn + 1, by omega, by push_cast; rfl, ⟨?_⟩, HC6, HX6⟩, by simp [intOf]; omega⟩
              have := HS6.out
              rw [← mix_same (f := rowsA pre) (g := rowsA (pre ++ [x])) hj3 (by rw [rowsA_snoc pre x jn r HR1.out, if_pos (of_decide_eq_true HDB.out)])] at this
              exact this
            case' false =>
              obtain ⟨rows, hgrows⟩ := HGD6.out
              have HGR := Aside0.mk hgrows
              clear hgrows
              have HSZ6 : Aside0 (w3.heap.size + 2 ≤ w6.heap.size) := ⟨by have := blk_lt HX6.out; omega⟩
              gi_wp2_with fail
              refine startRd_ (n := 14) (S := (fun w' => w'.heap[w.heap.size + 1 + 1]? = some (.cells #[.slice (some ⟨gr, 0, none⟩) n n] 37 (0, 0)) ∧ w'.heap[gr]? = some (.cells (rows.map (·.1)).toArray 41 (0, 0)) ∧ w'.heap[bx]? = some (.cells (hcells L st A n c x).toArray 88 (0, 0)))) (ds := [13]) #[false, false, false, false, false, false, false, false, false, false, false, false, false, false] (by kernel_rfl) rfl rfl (⟨HS6.out.vR, HGR.out.1.blk, HX6.out⟩) rfl (fun hHeld => ?_)
              refine with_tabW f40.tab16 f40.bits16 (fun HT_ HW_ => ?_)
              have HBW : Aside0 (Below w6.heap.size w6 w6.drew) := ⟨(Below.refl _ _).drew⟩
              refine take_ (i := 0) (N := some 76) (v := ?_) (a' := ?_) #[true, false, false, false, false, false, false, false, false, false, false, false, false, false] rfl rfl (take_ofW HT_.out HW_.out (by kernel_rfl)) (fun _ _ _ h => h) (Or.inl ⟨by rfl, ?_⟩) hHeld ?_ ?_
              rotate_left
              · rintro w' hS
                have s0 := (blk_cell hS.1 0).trans rfl
                have s1 : w'.cell? ⟨gr, jn, none⟩ = some (.slice Av k cv) := (blk_cell hS.2.1 jn).trans (by simp [HGR.out.2.2])
                have s2 := HD.out _ hS.2.2
                have s3 := blk_lt hS.1
                have s4 := blk_lt hS.2.1
                have s5 := blk_lt hS.2.2
                clear hS
                go_simp
                with_reducible rfl
              rotate_left
              · simp only [Act.put, List.setIfInBounds_toArray, List.set_cons_zero, List.set_cons_succ, i64_w, i32_w]
                rfl
              refine take_ (i := 1) (N := some 77) (v := ?_) (a' := ?_) #[true, true, false, false, false, false, false, false, false, false, false, false, false, false] rfl rfl (take_ofW HT_.out HW_.out (by kernel_rfl)) (fun _ _ _ h => h) (Or.inl ⟨by rfl, ?_⟩) hHeld ?_ ?_
              rotate_left
              · rintro w' hS
                have s0 := (blk_cell hS.1 0).trans rfl
                have s1 : w'.cell? ⟨gr, jn, none⟩ = some (.slice Av k cv) := (blk_cell hS.2.1 jn).trans (by simp [HGR.out.2.2])
                have s2 := HD.out _ hS.2.2
                have s3 := blk_lt hS.1
                have s4 := blk_lt hS.2.1
                have s5 := blk_lt hS.2.2
                clear hS
                go_simp
                with_reducible rfl
              rotate_left
              · simp only [Act.put, List.setIfInBounds_toArray, List.set_cons_zero, List.set_cons_succ, i64_w, i32_w]
                rfl
              refine take_ (i := 2) (N := some 78) (v := ?_) (a' := ?_) #[true, true, true, false, false, false, false, false, false, false, false, false, false, false] rfl rfl (take_ofW HT_.out HW_.out (by kernel_rfl)) (fun _ _ _ h => h) (Or.inl ⟨by rfl, ?_⟩) hHeld ?_ ?_
              rotate_left
              · rintro w' hS
                have s0 := (blk_cell hS.1 0).trans rfl
                have s1 : w'.cell? ⟨gr, jn, none⟩ = some (.slice Av k cv) := (blk_cell hS.2.1 jn).trans (by simp [HGR.out.2.2])
                have s2 := HD.out _ hS.2.2
                have s3 := blk_lt hS.1
                have s4 := blk_lt hS.2.1
                have s5 := blk_lt hS.2.2
                clear hS
                go_simp
                with_reducible rfl
              rotate_left
              · simp only [Act.put, List.setIfInBounds_toArray, List.set_cons_zero, List.set_cons_succ, i64_w, i32_w]
                rfl
              refine take_ (i := 3) (N := some 79) (v := ?_) (a' := ?_) #[true, true, true, true, false, false, false, false, false, false, false, false, false, false] rfl rfl (take_ofW HT_.out HW_.out (by kernel_rfl)) (fun _ _ _ h => h) (Or.inl ⟨by rfl, ?_⟩) hHeld ?_ ?_
              rotate_left
              · rintro w' hS
                have s0 := (blk_cell hS.1 0).trans rfl
                have s1 : w'.cell? ⟨gr, jn, none⟩ = some (.slice Av k cv) := (blk_cell hS.2.1 jn).trans (by simp [HGR.out.2.2])
                have s2 := HD.out _ hS.2.2
                have s3 := blk_lt hS.1
                have s4 := blk_lt hS.2.1
                have s5 := blk_lt hS.2.2
                clear hS
                go_simp
                with_reducible rfl
              rotate_left
              · simp only [Act.put, List.setIfInBounds_toArray, List.set_cons_zero, List.set_cons_succ, i64_w, i32_w]
                rfl
              refine take_ (i := 4) (N := some 80) (v := ?_) (a' := ?_) #[true, true, true, true, true, false, false, false, false, false, false, false, false, false] rfl rfl (take_ofW HT_.out HW_.out (by kernel_rfl)) (fun _ _ _ h => h) (Or.inl ⟨by rfl, ?_⟩) hHeld ?_ ?_
              rotate_left
              · rintro w' hS
                have s0 := (blk_cell hS.1 0).trans rfl
                have s1 : w'.cell? ⟨gr, jn, none⟩ = some (.slice Av k cv) := (blk_cell hS.2.1 jn).trans (by simp [HGR.out.2.2])
                have s2 := HD.out _ hS.2.2
                have s3 := blk_lt hS.1
                have s4 := blk_lt hS.2.1
                have s5 := blk_lt hS.2.2
                clear hS
                go_simp
                with_reducible rfl
              rotate_left
              · simp only [Act.put, List.setIfInBounds_toArray, List.set_cons_zero, List.set_cons_succ, i64_w, i32_w]
                rfl
              refine take_ (i := 5) (N := some 81) (v := ?_) (a' := ?_) #[true, true, true, true, true, true, false, false, false, false, false, false, false, false] rfl rfl (take_ofW HT_.out HW_.out (by kernel_rfl)) (fun _ _ _ h => h) (Or.inl ⟨by rfl, ?_⟩) hHeld ?_ ?_
              rotate_left
              · rintro w' hS
                have s0 := (blk_cell hS.1 0).trans rfl
                have s1 : w'.cell? ⟨gr, jn, none⟩ = some (.slice Av k cv) := (blk_cell hS.2.1 jn).trans (by simp [HGR.out.2.2])
                have s2 := HD.out _ hS.2.2
                have s3 := blk_lt hS.1
                have s4 := blk_lt hS.2.1
                have s5 := blk_lt hS.2.2
                clear hS
                go_simp
                with_reducible rfl
              rotate_left
              · simp only [Act.put, List.setIfInBounds_toArray, List.set_cons_zero, List.set_cons_succ, i64_w, i32_w]
                rfl
              refine take_ (i := 6) (N := some 82) (v := ?_) (a' := ?_) #[true, true, true, true, true, true, true, false, false, false, false, false, false, false] rfl rfl (take_ofW HT_.out HW_.out (by kernel_rfl)) (fun _ _ _ h => h) (Or.inl ⟨by rfl, ?_⟩) hHeld ?_ ?_
              rotate_left
              · rintro w' hS
                have s0 := (blk_cell hS.1 0).trans rfl
                have s1 : w'.cell? ⟨gr, jn, none⟩ = some (.slice Av k cv) := (blk_cell hS.2.1 jn).trans (by simp [HGR.out.2.2])
                have s2 := HD.out _ hS.2.2
                have s3 := blk_lt hS.1
                have s4 := blk_lt hS.2.1
                have s5 := blk_lt hS.2.2
                clear hS
                go_simp
                with_reducible rfl
              rotate_left
              · simp only [Act.put, List.setIfInBounds_toArray, List.set_cons_zero, List.set_cons_succ, i64_w, i32_w]
                rfl
              refine take_ (i := 7) (N := some 83) (v := ?_) (a' := ?_) #[true, true, true, true, true, true, true, true, false, false, false, false, false, false] rfl rfl (take_ofW HT_.out HW_.out (by kernel_rfl)) (fun _ _ _ h => h) (Or.inl ⟨by rfl, ?_⟩) hHeld ?_ ?_
              rotate_left
              · rintro w' hS
                have s0 := (blk_cell hS.1 0).trans rfl
                have s1 : w'.cell? ⟨gr, jn, none⟩ = some (.slice Av k cv) := (blk_cell hS.2.1 jn).trans (by simp [HGR.out.2.2])
                have s2 := HD.out _ hS.2.2
                have s3 := blk_lt hS.1
                have s4 := blk_lt hS.2.1
                have s5 := blk_lt hS.2.2
                clear hS
                go_simp
                with_reducible rfl
              rotate_left
              · simp only [Act.put, List.setIfInBounds_toArray, List.set_cons_zero, List.set_cons_succ, i64_w, i32_w]
                rfl
              refine take_ (i := 8) (N := some 84) (v := ?_) (a' := ?_) #[true, true, true, true, true, true, true, true, true, false, false, false, false, false] rfl rfl (take_ofW HT_.out HW_.out (by kernel_rfl)) (fun _ _ _ h => h) (Or.inl ⟨by rfl, ?_⟩) hHeld ?_ ?_
              rotate_left
              · rintro w' hS
                have s0 := (blk_cell hS.1 0).trans rfl
                have s1 : w'.cell? ⟨gr, jn, none⟩ = some (.slice Av k cv) := (blk_cell hS.2.1 jn).trans (by simp [HGR.out.2.2])
                have s2 := HD.out _ hS.2.2
                have s3 := blk_lt hS.1
                have s4 := blk_lt hS.2.1
                have s5 := blk_lt hS.2.2
                clear hS
                go_simp
                with_reducible rfl
              rotate_left
              · simp only [Act.put, List.setIfInBounds_toArray, List.set_cons_zero, List.set_cons_succ, i64_w, i32_w]
                rfl
              refine take_ (i := 9) (N := some 85) (v := ?_) (a' := ?_) #[true, true, true, true, true, true, true, true, true, true, false, false, false, false] rfl rfl (take_ofW HT_.out HW_.out (by kernel_rfl)) (fun _ _ _ h => h) (Or.inl ⟨by rfl, ?_⟩) hHeld ?_ ?_
              rotate_left
              · rintro w' hS
                have s0 := (blk_cell hS.1 0).trans rfl
                have s1 : w'.cell? ⟨gr, jn, none⟩ = some (.slice Av k cv) := (blk_cell hS.2.1 jn).trans (by simp [HGR.out.2.2])
                have s2 := HD.out _ hS.2.2
                have s3 := blk_lt hS.1
                have s4 := blk_lt hS.2.1
                have s5 := blk_lt hS.2.2
                clear hS
                go_simp
                with_reducible rfl
              rotate_left
              · simp only [Act.put, List.setIfInBounds_toArray, List.set_cons_zero, List.set_cons_succ, i64_w, i32_w]
                rfl
              refine one_ (i := 10) (N := some 86) #[true, true, true, true, true, true, true, true, true, true, true, false, false, false] rfl rfl (one_of HT_.out (by kernel_rfl)) (by decide) (fun K hK => ?_)
              refine slice1_step ?hg (N := 86) ?hd (x := .int .u8 r) (t := 5) ?hr ?_; (case hd => rfl); (case hg => rfl); (case hr => first | (go_simp; done) | (go_simp; rfl))
              intro g1 w26 hbx hb
              have HG1 := Aside0.mk (C1u hbx)
              replace HBW := Aside0.mk (HBW.out.trans (hb.mono HBW.out.size))
              refine hK.out _ _ ⟨blk_below hHeld.1 hb, blk_below hHeld.2.1 hb, blk_below hHeld.2.2 hb⟩ ?_
              clear hHeld hbx hb
              intro hHeld
              clear hK K
              refine norm_ (a' := ?_) ?_ ?_
              rotate_left
              · show Act.put _ (some 86) _ = _
                simp only [Act.put, List.setIfInBounds_toArray, List.set_cons_zero, List.set_cons_succ, i64_w, i32_w]
                rfl
              refine one_ (i := 11) (N := some 87) #[true, true, true, true, true, true, true, true, true, true, true, true, false, false] rfl rfl (one_of HT_.out (by kernel_rfl)) (by decide) (fun K hK => ?_)
              have HRw := Aside0.mk (Kd.R_below HRV2.out HBW.out)
              refine Kd.R_append_rows_step (Kd.int .u8) (w0 := w6) (w3.heap.size + 2) (by rfl) (.tmp 81) (.tmp 86) 41 5 (.int .u8 0) 1 rfl Try.underlying41 info5 rfl (by decide) (by omega) (.slice Av k cv) (rowsA pre jn) [r] _ _ _ (fun _ => True) (fun _ => False) rfl rfl HRw.out HG1.out (fun _ _ h => h) (fun _ h => h.elim) (fun _ _ => trivial) (HBW.out.mono HSZ6.out) (Nat.le_trans HSZ6.out HBW.out.size) (by have := HL3.out; have := HLK.out; simp; omega) ?_
              intro v7 w7 hR7 hb7 hg7 hat7
              obtain ⟨A7, n7, c7, rfl⟩ : ∃ A n c, v7 = .slice A n c := by
                obtain ⟨A, c, h⟩ := Kd.R_slice hR7
                exact ⟨A, _, c, h⟩
              have HR7 := Aside0.mk hR7
              have HG7 := Aside0.mk hg7
              have HAT7 := Aside0.mk hat7
              have hrow := (HGR.out.1.below HBW.out).own jn _ _ HGR.out.2.2
              refine hK.out _ _ ⟨blk_grown hHeld.1 hg7 (R_ne hrow hHeld.1 (by decide)), blk_grown hHeld.2.1 hg7 (R_ne hrow hHeld.2.1 (by decide)), blk_grown hHeld.2.2 hg7 (R_ne hrow hHeld.2.2 (by decide))⟩ ?_
              clear hHeld hR7 hb7 hg7 hat7 hrow
              intro hHeld
              clear hK K
              refine norm_ (a' := ?_) ?_ ?_
              rotate_left
              · show Act.put _ (some 87) _ = _
                simp only [Act.put, List.setIfInBounds_toArray, List.set_cons_zero, List.set_cons_succ, i64_w, i32_w]
                rfl
              refine take_ (i := 12) (N := some 88) (v := ?_) (a' := ?_) #[true, true, true, true, true, true, true, true, true, true, true, true, true, false] rfl rfl (take_ofW HT_.out HW_.out (by kernel_rfl)) (fun _ _ _ h => h) (Or.inl ⟨by rfl, ?_⟩) hHeld ?_ ?_
              rotate_left
              · rintro w' hS
                have s0 := (blk_cell hS.1 0).trans rfl
                have s1 : w'.cell? ⟨gr, jn, none⟩ = some (.slice Av k cv) := (blk_cell hS.2.1 jn).trans (by simp [HGR.out.2.2])
                have s2 := HD.out _ hS.2.2
                have s3 := blk_lt hS.1
                have s4 := blk_lt hS.2.1
                have s5 := blk_lt hS.2.2
                clear hS
                go_simp
                with_reducible rfl
              rotate_left
              · simp only [Act.put, List.setIfInBounds_toArray, List.set_cons_zero, List.set_cons_succ, i64_w, i32_w]
                rfl
              have t2 : w7.cell? ⟨gr, jn, none⟩ = some (.slice Av k cv) := (blk_cell hHeld.2.1 jn).trans (by simp [HGR.out.2.2])
              have t3 := blk_frozen hHeld.2.1 jn
              have HX7 := Aside0.mk hHeld.2.2
              have hxr : bx ≠ gr := blk_ne hHeld.2.2 hHeld.2.1 (by decide)
              refine last_ (i := 13) (N := none) #[true, true, true, true, true, true, true, true, true, true, true, true, true, true] rfl rfl (one_of HT_.out (by kernel_rfl)) (by decide) (fun K hK => ?_)
              refine skip_ (w1 := ?_) (by rfl) rfl ?_ ?_
              rotate_left
              · go_simp
                rfl
              refine hK.out _ _ ?_
              clear hK K
              refine done_ (done_of HT_.out (by kernel_rfl)) ?_
              refine onlyN_mk ?_
              have HS7 := Aside0.mk ((HS6.out.below HBW.out).put (HGR.out.1.below HBW.out) HGR.out.2.1 jn HGR.out.2.2 HG7.out HR7.out HAT7.out)
              have hrow := (HGR.out.1.below HBW.out).own jn _ _ HGR.out.2.2
              have HC7 := Aside0.mk (((HC6.out.trans (.of_below HBW.out)).trans (ChT.of_grown HG7.out (fun q hq o ho => .inr ⟨(row_typed hrow q hq).1, (row_typed hrow q hq).2 o ho⟩))).setCell ⟨gr, jn, none⟩ (.slice A7 n7 c7) (fun _ _ => .inl (.inr (.inl rfl))))
              replace HX7 := Aside0.mk (blk_far (p := ⟨gr, jn, none⟩) HX7.out hxr (.slice A7 n7 c7))
              gi_wp2_with fail
              refine ⟨⟨jn + 1, by omega, by push_cast; rfl, ⟨?_⟩, HC7, HX7⟩, by simp [intOf]; omega⟩
              have := HS7.out
              rw [show rowsA pre jn ++ [r] = rowsA (pre ++ [x]) jn by rw [rowsA_snoc pre x jn r HR1.out, if_neg (of_decide_eq_false HDB.out)], mix_set _ _ n jn hj3] at this
              exact this
        · have hj6 : decide ((jn : Int) < (n : Int)) = false := decide_eq_false (by omega)
          have g2 : wr.cell? ⟨bf, 0, none⟩ = some (.bool fb) := (blk_cell HSr.out.ft 0).trans rfl
          have g3 := blk_frozen HSr.out.ft 0
          obtain rfl : jn = n := by omega
          gi_wp2_with fail
          refine ⟨HCr.out.setCell _ _ (fun _ _ => .inl (.inr (.inr rfl))), ?_⟩
          have := HSr.out.firstly false
          rw [mix_n, mix_n] at this
          have e : (pre ++ [x]).isEmpty = false := by simp
          show RunsS _ _ _ _ _ _ _ (pre ++ [x]).isEmpty _ _ _
          rw [e]
          exact this
    case done =>
      rintro W hch hcell hk
      have HKB : Aside0 (Below w.heap.size w W) := ⟨KB3.out.trans (hch.below (by omega) (by rintro i hi (h | h | h | h) <;> omega))⟩
      have e0 : (hists L st l).isEmpty = false := by have := HNE.out; cases h : hists L st l with
        | nil => exact absurd h this
        | cons => rfl
      rw [e0] at hcell
      have HS := Aside0.mk hcell
      have HK := Aside0.mk hk
      have q1 : W.cell? ⟨w.heap.size + 1 + 1, 0, none⟩ = some (.slice (some ⟨gr, 0, none⟩) n n) := (blk_cell hcell.vR 0).trans rfl
      clear hch hcell hk e0
      gi_wp2_with fail
      gi_loopw [92] (fun j wr => ∃ jn : Nat, jn ≤ n ∧ j = .int .i64 jn ∧ Aside0 (RunsS (w.heap.size + 1) (w.heap.size + 1 + 1) bf gl gr (w3.heap.size + 2) n false ((List.range n).map fun i => sp (lvAt (hists L st l) i)) (mix (rowsA (hists L st l)) (fun i => rising (rowsA (hists L st l) i)) n jn) wr) ∧ Aside0 (Below w.heap.size w wr) ∧ Aside0 (wr.heap[w3.heap.size]? = some (.deferred (some [])))) (fun j _ => n - (intOf j).toNat)
      case atStart => exact ⟨0, by omega, rfl, ⟨by rw [mix_0]; exact HS.out⟩, HKB, HK⟩
      case round =>
        obtain ⟨jn, hj, rfl, HSr, HBr, HKr⟩ := hrel
        clear q1 HS HKB HK
        by_cases hj3 : jn < n
        · have hj4 : (jn : Int) < (n : Int) := by omega
          have hj5 : (0 : Int) ≤ (jn : Int) := by omega
          have hj6 : decide ((jn : Int) < (n : Int)) = true := decide_eq_true hj4
          have HN63 : (n : Int) ≤ 14 := by have := HN14.out; omega
          obtain ⟨rows, hgrid, hrows⟩ := HSr.out.gd
          obtain ⟨v1, hv1⟩ := grid_at hrows (mix_at (rowsA (hists L st l)) (fun i => rising (rowsA (hists L st l) i)) n jn hj3)
          have hRv := hgrid.own jn _ _ hv1
          have hl3 := addR_len (rsAt (hists L st l) jn) (rowsA_range k3 k4 (fun h hh => hh) jn (by rw [HN.out]; exact hj3))
          have hl0 : 0 < (rowsA (hists L st l) jn).length := by
            obtain ⟨h, hh⟩ := List.exists_mem_of_ne_nil _ HNE.out
            have : (h.getD jn (0, 0)).1 ∈ rowsA (hists L st l) jn := (addR_mem _ _ _).2 (.inr (List.mem_map.2 ⟨h, hh, rfl⟩))
            exact List.length_pos_of_mem this
          obtain ⟨g, cap, rfl, hg1, hg2, _⟩ := Kd.R_form hRv hl0
          obtain ⟨k, hk⟩ : ∃ k, (rowsA (hists L st l) jn).length = k := ⟨_, rfl⟩
          have hl4 : (rowsA (hists L st l) jn).length ≤ 3 := hl3
          rw [hk] at hRv hv1 hl0 hl4
          have HGD : Aside0 (GridAt (w3.heap.size + 2) gr jn (.slice (some ⟨g, 0, none⟩) k cap) (rowsA (hists L st l) jn) (mix (rowsA (hists L st l)) (fun i => rising (rowsA (hists L st l) i)) n jn) wr) := ⟨rows, hgrid, hrows, hv1⟩
          have HRV := Aside0.mk hRv
          have HKL := Aside0.mk (And.intro hk (And.intro hl4 hl0))
          have g1 : wr.cell? ⟨gr, jn, none⟩ = some (.slice (some ⟨g, 0, none⟩) k cap) := hgrid.cell jn hv1
          have HG1 := Aside0.mk (And.intro hg1 hg2)
          clear hgrid hrows hv1 hRv hl3 hl0 hk hl4 hg1 hg2
          gi_wp2_with fail
          refine ⟨trivial, rfl, (callsIn_wide.2 (sort8_calls g k cap (w3.heap.size + 2) (rowsA (hists L st l) jn) wr HRV.out HKL.out.1 HKL.out.2.1 HKL.out.2.2)).mono ?_⟩
          rintro e w9 ⟨rfl, hR9, hc9⟩
          have HS9 : Aside0 (RunsS (w.heap.size + 1) (w.heap.size + 1 + 1) bf gl gr (w3.heap.size + 2) n false ((List.range n).map fun i => sp (lvAt (hists L st l) i)) (mix (rowsA (hists L st l)) (fun i => rising (rowsA (hists L st l) i)) n (jn + 1)) w9) := ⟨by
            obtain ⟨rows, h1, h2, h3⟩ := HGD.out
            have := HSr.out.sort h1 h2 jn g k cap h3 hc9 hR9
            rw [mix_set (rowsA (hists L st l)) (fun i => rising (rowsA (hists L st l) i)) n jn hj3] at this
            exact this⟩
          have HB9 : Aside0 (Below w.heap.size w w9) := ⟨HBr.out.trans (hc9.below HBr.out.size (by rintro i hi rfl; have := HG1.out.1; have := HW3.out; omega))⟩
          have HK9 : Aside0 (w9.heap[w3.heap.size]? = some (.deferred (some []))) := ⟨hc9.heap HKr.out (by have := HG1.out.1; omega)⟩
          clear hR9 hc9 g1 HSr HBr HKr HGD HRV
          gi_wp2_with fail
          refine ⟨⟨jn + 1, by omega, by push_cast; rfl, HS9, HB9, HK9⟩, by simp [intOf]; omega⟩
        · have hj6 : decide ((jn : Int) < (n : Int)) = false := decide_eq_false (by omega)
          obtain rfl : jn = n := by omega
          have HSE := HSr.out
          rw [mix_n] at HSE
          replace HSE := Aside0.mk HSE
          have HBE := HBr
          have HKE := HKr
          clear HSr HBr HKr
          gi_wp2_with fail
          refine startIn_ (n := 5) (S := (fun w' => Below w.heap.size w w' ∧ RunsS (w.heap.size + 1) (w.heap.size + 1 + 1) bf gl gr (w3.heap.size + 2) jn false ((List.range jn).map fun i => sp (lvAt (hists L st l) i)) ((List.range jn).map fun i => rising (rowsA (hists L st l) i)) w' ∧ w'.heap[w3.heap.size]? = some (.deferred (some [])))) (ds := []) #[false, false, false, false, false] (by kernel_rfl) rfl rfl (⟨HBE.out.drew, HSE.out.below (pw_below_drewN (Below.refl _ _) 1), HKE.out⟩) rfl (fun hHeld => ?_)
          refine with_tabW f40.tab24 f40.bits24 (fun HT_ HW_ => ?_)
          refine take_ (i := 0) (N := some 99) (v := ?_) (a' := ?_) #[true, false, false, false, false] rfl rfl (take_ofW HT_.out HW_.out (by kernel_rfl)) (fun _ _ _ h => h) (Or.inl ⟨by rfl, ?_⟩) hHeld ?_ ?_
          rotate_left
          · rintro w' hS
            have s0 := (blk_cell hS.2.1.vL 0).trans rfl
            have s1 := (blk_cell hS.2.1.vR 0).trans rfl
            clear hS
            go_simp
            with_reducible rfl
          rotate_left
          · simp only [Act.put, List.setIfInBounds_toArray, List.set_cons_zero, List.set_cons_succ, i64_w, i32_w]
            rfl
          refine take_ (i := 1) (N := some 100) (v := ?_) (a' := ?_) #[true, true, false, false, false] rfl rfl (take_ofW HT_.out HW_.out (by kernel_rfl)) (fun _ _ _ h => h) (Or.inl ⟨by rfl, ?_⟩) hHeld ?_ ?_
          rotate_left
          · rintro w' hS
            have s0 := (blk_cell hS.2.1.vL 0).trans rfl
            have s1 := (blk_cell hS.2.1.vR 0).trans rfl
            clear hS
            go_simp
            with_reducible rfl
          rotate_left
          · simp only [Act.put, List.setIfInBounds_toArray, List.set_cons_zero, List.set_cons_succ, i64_w, i32_w]
            rfl
          refine one_ (i := 2) (N := none) #[true, true, true, false, false] rfl rfl (one_of HT_.out (by kernel_rfl)) (by decide) (fun K hK => ?_)
          have t1 := (blk_cell hHeld.2.1.vL 0).trans rfl
          have t2 := (blk_cell hHeld.2.1.vR 0).trans rfl
          have t3 := blk_frozen hHeld.2.1.vL 0
          have t4 := blk_frozen hHeld.2.1.vR 0
          refine skip_ (w1 := ?_) (by rfl) rfl ?_ ?_
          rotate_left
          · go_simp
            rfl
          clear t1 t2 t3 t4
          refine hK.out _ _ ⟨below_set hHeld.1 (by show w.heap.size ≤ _; omega), hHeld.2.1.sameL, (Below.heap_setCell _ _ _ _ (by show w3.heap.size ≠ w.heap.size + 1; have := HW3.out; omega)).trans hHeld.2.2⟩ ?_
          clear hHeld
          intro hHeld
          clear hK K
          refine one_ (i := 3) (N := none) #[true, true, true, true, false] rfl rfl (one_of HT_.out (by kernel_rfl)) (by decide) (fun K hK => ?_)
          have t1 := (blk_cell hHeld.2.1.vL 0).trans rfl
          have t2 := (blk_cell hHeld.2.1.vR 0).trans rfl
          have t3 := blk_frozen hHeld.2.1.vL 0
          have t4 := blk_frozen hHeld.2.1.vR 0
          refine skip_ (w1 := ?_) (by rfl) rfl ?_ ?_
          rotate_left
          · go_simp
            rfl
          clear t1 t2 t3 t4
          refine hK.out _ _ ⟨below_set hHeld.1 (by show w.heap.size ≤ _; omega), hHeld.2.1.sameR, (Below.heap_setCell _ _ _ _ (by show w3.heap.size ≠ w.heap.size + 1 + 1; have := HW3.out; omega)).trans hHeld.2.2⟩ ?_
          clear hHeld
          intro hHeld
          clear hK K
          refine take_ (i := 4) (N := some 4) (v := ?_) (a' := ?_) #[true, true, true, true, true] rfl rfl (take_ofW HT_.out HW_.out (by kernel_rfl)) (fun _ _ _ h => h) (Or.inl ⟨by rfl, ?_⟩) hHeld ?_ ?_
          rotate_left
          · rintro w' hS
            have s0 := (blk_cell hS.2.1.vL 0).trans rfl
            have s1 := (blk_cell hS.2.1.vR 0).trans rfl
            clear hS
            go_simp
            with_reducible rfl
          rotate_left
          · simp only [Act.put, List.setIfInBounds_toArray, List.set_cons_zero, List.set_cons_succ, i64_w, i32_w]
            rfl
          refine done_ (done_of HT_.out (by kernel_rfl)) ?_
          refine onlyN_mk ?_
          gi_wp2_with fail
          refine mark_ret hHeld.2.2 ?_
          intro W' hW' hb'
          have HS' := hHeld.2.1.kept (ChT.of_mark hW' hb') (fun o h => by have h : gl = w3.heap.size := h; omega) (fun o h => by have h : gr = w3.heap.size := h; omega) (fun o h => by have h : bf = w3.heap.size := h; omega) (fun o h => by have h : w.heap.size + 1 = w3.heap.size := h; omega) (fun o h => by have h : w.heap.size + 1 + 1 = w3.heap.size := h; omega) (fun b cells hb h => by have h : b = w3.heap.size := h; omega)
          have hc5 : W'.cell? ⟨w.heap.size + 1, 0, none⟩ = some (.slice (some ⟨gl, 0, none⟩) jn jn) := (blk_cell HS'.vL 0).trans rfl
          have hc6 : W'.cell? ⟨w.heap.size + 1 + 1, 0, none⟩ = some (.slice (some ⟨gr, 0, none⟩) jn jn) := (blk_cell HS'.vR 0).trans rfl
          refine ⟨.tuple #[.slice (some ⟨gl, 0, none⟩) jn jn, .slice (some ⟨gr, 0, none⟩) jn jn, .int .i64 0], by simp [results, Try.f40, go_sem, hc5, hc6], _, _, by rw [HPV.out], ?_, hHeld.1.trans (hb'.mono (by omega))⟩
          unfold RunsOut
          rw [if_pos HPV.out, HN.out]
          refine ⟨gl, gr, rfl, rfl, ?_, ?_⟩
          · have := span_reads HS'.sp (by have := HN14.out; rw [List.length_map, List.length_range]; omega)
            simpa [List.map_map, Function.comp_def] using this
          · obtain ⟨rows, h1, h2⟩ := HS'.gd
            have h3 := h1.reads (by have h5 := congrArg List.length h2; have := HN14.out; rw [List.length_map, List.length_map, List.length_range] at h5; omega)
            have h4 : rows.length = jn := by simpa using congrArg List.length h2
            rw [h4, h2] at h3
            rw [show ((List.range jn).map fun i => rowR (rsAt (hists L st l) i)) = (List.range jn).map fun i => rising (rowsA (hists L st l) i) from List.map_congr_left fun i hi => (rowR_eq _ (rowsA_range k3 k4 (fun h hh => hh) i (by rw [HN.out]; simpa using hi))).symm]
            exact h3
  · have h0b : (pv == 0) = false := beq_eq_false_iff_ne.2 hp
    have h0c : (pv != 0) = true := bne_iff_ne.2 hp
    gi_wp2_with fail
    have hc5 := (blk_cell (far0 (blk_put (cs' := #[.slice none 0 0]) X2.out 0 (.slice none 0 0) rfl) (show w.heap.size + 1 ≠ w.heap.size + 1 + 1 by omega) (.slice none 0 0)) 0).trans rfl
    have hc6 := (blk_cell (blk_put (cs' := #[.slice none 0 0]) (far0 X3.out (show w.heap.size + 1 + 1 ≠ w.heap.size + 1 by omega) (.slice none 0 0)) 0 (.slice none 0 0) rfl) 0).trans rfl
    refine ⟨.tuple #[.slice none 0 0, .slice none 0 0, .int .i64 pv], by simp [results, Try.f40, go_sem, hc5, hc6], .slice none 0 0, .slice none 0 0, by rw [HPV.out], ?_, ?_⟩
    · unfold RunsOut
      rw [if_neg (by rw [HPV.out]; exact hp)]
      exact ⟨rfl, rfl⟩
    · exact below_set (below_set KB.out (by show w.heap.size ≤ _; omega)) (by show w.heap.size ≤ _; omega)
end Go.Proofs.Ytkglggggmlnleaa.Print
