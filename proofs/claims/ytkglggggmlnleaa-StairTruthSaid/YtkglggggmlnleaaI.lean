/- The iterator's own memory; what moves, a move and may answer. -/
import Derived.Test.YtkglggggmlnleaaG
import Derived.Laws.StructEq
import Derived.DeepKeys4
import Derived.Maps.OwnOps
namespace Go.Proofs.Ytkglggggmlnleaa.Print
open Go.RowKit Go.Proofs.YtkglggggmlnleaaW.PrintWords Go.Proofs.YtkglggggmlnleaaW.PrintLast Go.Proofs.YtkglggggmlnleaaW.PrintMore
set_option linter.unusedVariables false
set_option linter.unusedSimpArgs false

/-- The level behind a run. -/
def nxt (L l r : Int) : Int := if r = 0 then max 0 (l - 1) else if r = 1 then min (L - 1) (l + 1) else l
/-- May a run have been at a level, with a result? -/
def mayB (x : S67) (l r : Int) : Bool := (x.f0 == -1 || x.f0 == l) && (x.f1 == 3 || x.f1 == r)
/-- All histories from a level on: results and levels. -/
def hists (L : Int) : Int → List S67 → List (List (Int × Int))
  | _, [] => [[]]
  | l, x :: xs => ([0, 1, 2] : List Int).flatMap fun r => if mayB x l r then (hists L (nxt L l r) xs).map ((r, l) :: ·) else []
/-- Can it go on? -/
def canB (L : Int) : Int → List S67 → Bool
  | _, [] => true
  | l, x :: xs => ([0, 1, 2] : List Int).any fun r => mayB x l r && canB L (nxt L l r) xs
theorem canB_iff (L : Int) : ∀ (xs : List S67) (l : Int), canB L l xs = true ↔ hists L l xs ≠ []
  | [], l => by simp [canB, hists]
  | x :: xs, l => by
    have ih := canB_iff L xs
    simp only [canB, hists, List.any_eq_true, Bool.and_eq_true, ne_eq, List.flatMap_eq_nil_iff]
    constructor
    · rintro ⟨r, hr, hm, hc⟩ h
      have h2 := h r hr
      rw [if_pos hm, List.map_eq_nil_iff] at h2
      exact (ih _).1 hc h2
    · intro h
      apply Classical.byContradiction
      intro hn
      refine h (fun r hr => ?_)
      by_cases hm : mayB x l r = true
      · rw [if_pos hm, List.map_eq_nil_iff]
        apply Classical.byContradiction
        intro hc
        exact hn ⟨r, hr, hm, (ih _).2 hc⟩
      · rw [if_neg hm]

/-- A level stays a level. -/
theorem nxt_range {L l r : Int} (hl : 0 ≤ l) (hL : l < L) : 0 ≤ nxt L l r ∧ nxt L l r < L := by
  unfold nxt
  by_cases h0 : r = 0
  · rw [if_pos h0]; omega
  · rw [if_neg h0]
    by_cases h1 : r = 1
    · rw [if_pos h1]; omega
    · rw [if_neg h1]; omega

/-! ### The memo -/
/-- The entries of the memo: each says of a step whether it can go on. -/
def MemoOK (W : World) (km : Nat) (L : Int) (xs : List S67) : Prop :=
  ∃ (es : Array MapEntry) (clock : Nat), W.heap[km]? = some (.map es clock) ∧
    ∀ e ∈ es.toList, ∃ (k : Nat) (l : Int), k < xs.length ∧ 0 ≤ l ∧ l < L ∧ e.key = .agg #[.int .i64 k, .int .i64 l] ∧ e.val = .bool (canB L l (xs.drop k))
theorem MemoOK.of_same {W W' : World} {km : Nat} {L : Int} {xs : List S67} (h : MemoOK W km L xs) (hs : W'.heap[km]? = W.heap[km]?) : MemoOK W' km L xs := by
  obtain ⟨es, clock, h1, h2⟩ := h
  exact ⟨es, clock, hs.trans h1, h2⟩

theorem laidOut : laidOutB Try.prog = true := by kernel_rfl
theorem types_size : Try.prog.types.size = 177 + 1 := by kernel_rfl
theorem row105 : (105 : TypeId) < Try.prog.types.size := of_decide_eq_true (by kernel_rfl)
set_option maxRecDepth 100000 in
theorem wide105 : (match Try.prog.underlying 105 with | some (.array _ _) | some (.struct _) => true | _ => false) = true := by rw [Try.underlying105]
theorem keyAt105 : Try.prog.keyTypeAt 2 105 = true := by kernel_rfl
set_option maxRecDepth 100000 in
theorem law105 : Maps.Keyed Try.prog 105 := Maps.Keyed.of_law (deep_law_laid laidOut (m := 2) (by omega) row105 keyAt105 wide105)
theorem keyType105 : Try.prog.keyType 105 = true := by kernel_rfl
theorem cells105 : Try.prog.cellsOf 105 = 2 := by kernel_rfl
theorem cells3 : Try.prog.cellsOf 3 = 1 := by kernel_rfl
set_option maxRecDepth 100000 in
theorem key_step {a b : Int} (ha : (Lit.int .i64 a).wf = true) (hb : (Lit.int .i64 b).wf = true) : ∃ l, keyOf Try.prog 105 (.agg #[.int .i64 a, .int .i64 b]) = some l := by
  have e1 : ∀ d, Program.keyLits Try.prog (d + 1) 3 [.int .i64 a] = some [.int .i64 a] := fun d => by simp [Program.keyLits, Try.underlying3, ha]
  have e2 : ∀ d, Program.keyLits Try.prog (d + 1) 3 [.int .i64 b] = some [.int .i64 b] := fun d => by simp [Program.keyLits, Try.underlying3, hb]
  have e3 : ∀ d, Program.keyLits Try.prog (d + 1 + 1) 105 [.int .i64 a, .int .i64 b] = some [.int .i64 a, .int .i64 b] := fun d => by
    unfold Program.keyLits
    rw [Try.underlying105]
    simp [cells105, cells3, e1, e2]
  have hm : ∃ m, Try.prog.types.size + 1 = m + 1 + 1 := by rw [types_size]; exact ⟨177, rfl⟩
  obtain ⟨m, hm⟩ := hm
  refine ⟨.string (keyBytes [.int .i64 a, .int .i64 b]), ?_⟩
  unfold keyOf
  rw [Try.underlying105, keyType105]
  simp only [Value.formed, Try.underlying105, cells105, hm, Value.cells]
  rw [e3]
  simp
theorem wf_small {a : Int} (h0 : 0 ≤ a) (h1 : a ≤ 1000) : (Lit.int .i64 a).wf = true := WalkArith.wf_i64 (by omega)
/-- The memo is asked. -/
theorem run_memo {W : World} {km : Nat} {L : Int} {xs : List S67} (h : MemoOK W km L xs) (hL : L ≤ 8) (hx : xs.length ≤ 14) {k : Nat} {l : Int} (hk : k < xs.length) (h0 : 0 ≤ l) (h1 : l < L) :
    (Instr.lookup 117 (.map (some km)) (.agg #[.int .i64 k, .int .i64 l]) true).run Try.prog W = .ok (.tuple #[.bool false, .bool false]) W ∨
    (Instr.lookup 117 (.map (some km)) (.agg #[.int .i64 k, .int .i64 l]) true).run Try.prog W = .ok (.tuple #[.bool (canB L l (xs.drop k)), .bool true]) W := by
  obtain ⟨es, clock, hb, he⟩ := h
  have u4 := Try.underlying4
  obtain ⟨lk, hlk⟩ := key_step (a := k) (b := l) (wf_small (by omega) (by omega)) (wf_small h0 (by omega))
  have hes : ∀ e ∈ es.toList, ∃ q, keyOf Try.prog 105 e.key = some q := fun e hm => by
    obtain ⟨k', l', a1, a2, a3, a4, _⟩ := he e hm
    rw [a4]
    exact key_step (wf_small (by omega) (by omega)) (wf_small a2 (by omega))
  have hz : (zeroValue 4).run Try.prog W = .ok (.bool false) W := by kernel_rfl
  rcases law105.find W hlk es.toList hes with ⟨h2, _⟩ | ⟨j, e, h2, hj, hkey⟩
  · left
    simp [Instr.lookup, run_underlying Try.underlying117, MapKept.run_getObj_map hb, law105.check W es.isEmpty hlk, h2, hz, Result.andThen]
  · right
    have hm : e ∈ es.toList := List.mem_of_getElem? hj
    obtain ⟨k', l', a1, a2, a3, a4, a5⟩ := he e hm
    rw [a4] at hkey
    simp at hkey
    obtain ⟨hk1, rfl⟩ := hkey
    obtain rfl : k' = k := by omega
    simp [Instr.lookup, run_underlying Try.underlying117, MapKept.run_getObj_map hb, law105.check W es.isEmpty hlk, h2, a5, Result.andThen]
/-- The memo is told one thing more. -/
theorem run_memo_put {W : World} {km : Nat} {L : Int} {xs : List S67} (h : MemoOK W km L xs) (hL : L ≤ 8) (hx : xs.length ≤ 14) {k : Nat} {l : Int} (hk : k < xs.length) (h0 : 0 ≤ l) (h1 : l < L) :
    ∃ W', (Instr.mapUpdate 117 (.map (some km)) (.agg #[.int .i64 k, .int .i64 l]) (.bool (canB L l (xs.drop k)))).run Try.prog W = .ok () W' ∧ MemoOK W' km L xs ∧ Ch (· = km) W W' := by
  obtain ⟨es, clock, hb, he⟩ := h
  obtain ⟨lk, hlk⟩ := key_step (a := k) (b := l) (wf_small (by omega) (by omega)) (wf_small h0 (by omega))
  have hes : ∀ e ∈ es.toList, ∃ q, keyOf Try.prog 105 e.key = some q := fun e hm => by
    obtain ⟨k', l', a1, a2, a3, a4, _⟩ := he e hm
    rw [a4]
    exact key_step (wf_small (by omega) (by omega)) (wf_small a2 (by omega))
  have hch : ∀ o, Ch (· = km) W (ChangeMaps.setBlock W km o) := fun o => ⟨rfl, rfl, rfl, by simp [ChangeMaps.setBlock], fun i hi hn => by simp [ChangeMaps.setBlock, Array.getElem?_setIfInBounds_ne (Ne.symm hn)]⟩
  have hin := (Array.getElem?_eq_some_iff.1 hb).1
  have hset : ∀ o, (ChangeMaps.setBlock W km o).heap[km]? = some o := fun o => by simp [ChangeMaps.setBlock, hin]
  rcases law105.find W hlk es.toList hes with ⟨h2, _⟩ | ⟨j, e, h2, hj, hkey⟩
  · refine ⟨ChangeMaps.setBlock W km (.map (es.push ⟨.agg #[.int .i64 k, .int .i64 l], .bool (canB L l (xs.drop k)), clock⟩) (clock + 1)), ?_, ⟨_, _, hset _, ?_⟩, hch _⟩
    · simp [Instr.mapUpdate, run_underlying Try.underlying117, MapKept.run_getObj_map hb, law105.check W false hlk, h2, MapKept.run_setObj_map _ hb, Result.andThen, ChangeMaps.setBlock]
    · intro x hx
      simp only [Array.toList_push, List.mem_append, List.mem_singleton] at hx
      rcases hx with hx | rfl
      · exact he x hx
      · exact ⟨k, l, hk, h0, h1, rfl, rfl⟩
  · have hj' : es[j]? = some e := by simpa using hj
    refine ⟨ChangeMaps.setBlock W km (.map (es.modify j fun e' => { e' with key := .agg #[.int .i64 k, .int .i64 l], val := .bool (canB L l (xs.drop k)) }) clock), ?_, ⟨_, _, hset _, ?_⟩, hch _⟩
    · simp [Instr.mapUpdate, run_underlying Try.underlying117, MapKept.run_getObj_map hb, law105.check W false hlk, h2, hj', hkey, law105.stays W hlk, MapKept.run_setObj_map _ hb, Result.andThen, ChangeMaps.setBlock]
    · intro x hx
      rcases MapFrom.mem_modify hx with hx | ⟨e', _, rfl⟩
      · exact he x hx
      · exact ⟨k, l, hk, h0, h1, rfl, rfl⟩
end Go.Proofs.Ytkglggggmlnleaa.Print
namespace Go.Proofs.Ytkglggggmlnleaa.Print
open Go.RowKit Go.Proofs.YtkglggggmlnleaaW.PrintWords Go.Proofs.YtkglggggmlnleaaW.PrintLast Go.Proofs.YtkglggggmlnleaaW.PrintMore
set_option linter.unusedVariables false
set_option linter.unusedSimpArgs false

section
variable {P : Program} {ops : Array Oper} {Q : Exit → Act → World → Prop}
theorem runv {oi : Oper} {a : Act} {w : World} {f : FuncId} {fn : Func} {first cap : Array Value} {t : Tmp} {os : Array Operand} {ts : Array TypeId} (hf : P.funcs[f]? = some fn) (hname : (fn.name == "runtime.NumGoroutine") = false) (hb : fn.body.isSome = true) (args : Array Value)
    (hop : oi.op = .call { callee := .value (.tmp t), args := os, argTypes := ts }) (hv : a.eval (.tmp t) = .func (.func f) first cap) (hargs : first ++ os.map a.eval ++ cap = args) : (execOp a.eval oi).run P w = .ok (.enter f args) w := by
  have he := enters_ hf hname hb args w
  unfold execOp
  simp [hop, resolve, hv, Deferred.ofValue, invoke]
  simp only [Array.append_assoc] at hargs
  rw [hargs, he]
/-- A call of a function value, in a region that draws. -/
theorem callv_ {oi : Oper} {N : Option Tmp} {a : Act} {w : World} {K : Act → World → Prop} {f : FuncId} {fn : Func} {first cap : Array Value} {t : Tmp} {os : Array Operand} {ts : Array TypeId} (hf : P.funcs[f]? = some fn) (hname : (fn.name == "runtime.NumGoroutine") = false) (hb : fn.body.isSome = true) (args : Array Value)
    (hw : Region.wanted oi (yielded ops a.tmps) = true) (hN : oi.dst = N) (hop : oi.op = .call { callee := .value (.tmp t), args := os, argTypes := ts }) (hv : a.eval (.tmp t) = .func (.func f) first cap) (hargs : first ++ os.map a.eval ++ cap = args)
    (h : Calls P f args w fun e w' => ∃ v, e = .returned v ∧ K (a.put N v) w') : if Region.wanted oi (yielded ops a.tmps) = true then Oper.wp P oi a w K Q else K (a.put N undef) w :=
  call_ f args hw hN (runv hf hname hb args hop hv hargs) h
end

/-! ### Reading runs -/
theorem C67_cells {w w1 : World} {A : Option Addr} {n : Nat} {xs : List S67} (h : Kd.C k67 w A n xs) (hc : ∀ p v, w.cell? p = some v → w1.cell? p = some v) : Kd.C k67 w1 A n xs := by
  obtain ⟨h1, h2, h3⟩ := h
  refine ⟨h1, h2, fun hn => ?_⟩
  obtain ⟨ad, e, hh⟩ := h3 hn
  refine ⟨ad, e, fun j p hj => ?_⟩
  obtain ⟨c, hs, hr, hcell⟩ := hh j p hj
  refine ⟨c, hs, ?_, fun i u hi => hc _ _ (hcell i u hi)⟩
  have := k67_open hr
  rw [this]
  exact k67_mk w1 p
theorem cell_block {w : World} {p : Addr} {v : Value} (h : w.cell? p = some v) : ∃ cs t fr, w.heap[p.block]? = some (.cells cs t fr) := by
  unfold World.cell? at h
  split at h
  · rename_i cs t fr heq; exact ⟨cs, t, fr, heq⟩
  · cases h
/-- Cells lie where they lay, if what has changed is no cells. -/
theorem cells_kept {S : Nat → Prop} {w w1 : World} (hc : Ch S w w1) (hS : ∀ b cs t fr, w.heap[b]? = some (.cells cs t fr) → ¬ S b) : ∀ p v, w.cell? p = some v → w1.cell? p = some v := fun p v h => by
  obtain ⟨cs, t, fr, hb⟩ := cell_block h
  rw [← h]
  exact World.cell?_of_block (w := w) (hc.block _ (Array.getElem?_eq_some_iff.1 hb).1 (hS _ _ _ _ hb))

/-- The iterator's memory, made by histories: the staircase, may, the memo, can. -/
structure IterSt (W : World) (bs bm bk bc km : Nat) (L st : Int) (A : Option Addr) (c : Nat) (xs : List S67) : Prop where
  s : W.heap[bs]? = some (.cells #[.int .i64 L, .int .i64 st, .slice A xs.length c] 34 (0, 0))
  may : W.heap[bm]? = some (.cells #[.func (.func 60) #[.agg #[.int .i64 L, .int .i64 st, .slice A xs.length c]] #[]] 103 (0, 0))
  kn : W.heap[bk]? = some (.cells #[.map (some km)] 117 (0, 0))
  can : W.heap[bc]? = some (.cells #[.func (.func 68) #[] #[.pointer (some ⟨bs, 0, none⟩), .pointer (some ⟨bk, 0, none⟩), .pointer (some ⟨bm, 0, none⟩), .pointer (some ⟨bc, 0, none⟩)]] 118 (0, 0))
  memo : MemoOK W km L xs
  reads : Kd.C k67 W A xs.length xs
  cap : xs.length ≤ c
theorem IterSt.kept {W W' : World} {bs bm bk bc km : Nat} {L st : Int} {A : Option Addr} {c : Nat} {xs : List S67} {S : Nat → Prop} (h : IterSt W bs bm bk bc km L st A c xs) (hc : Ch S W W') (hS : ∀ b cs t fr, W.heap[b]? = some (.cells cs t fr) → ¬ S b) (hm : MemoOK W' km L xs) : IterSt W' bs bm bk bc km L st A c xs :=
  ⟨hc.heap h.s (hS _ _ _ _ h.s), hc.heap h.may (hS _ _ _ _ h.may), hc.heap h.kn (hS _ _ _ _ h.kn), hc.heap h.can (hS _ _ _ _ h.can), hm, C67_cells h.reads (cells_kept hc hS), h.cap⟩
theorem IterSt.same {W W' : World} {bs bm bk bc km : Nat} {L st : Int} {A : Option Addr} {c : Nat} {xs : List S67} (h : IterSt W bs bm bk bc km L st A c xs) (hb : Below W.heap.size W W') : IterSt W' bs bm bk bc km L st A c xs :=
  h.kept (S := fun _ => False) (Ch.of_below hb) (fun _ _ _ _ _ hf => hf) (by
    obtain ⟨es, cl, h1, _⟩ := h.memo
    exact h.memo.of_same (hb.block _ (Array.getElem?_eq_some_iff.1 h1).1))
theorem IterSt.km_map {W : World} {bs bm bk bc km : Nat} {L st : Int} {A : Option Addr} {c : Nat} {xs : List S67} (h : IterSt W bs bm bk bc km L st A c xs) : ∀ b cs t fr, W.heap[b]? = some (.cells cs t fr) → ¬ b = km := fun b cs t fr hb e => by
  subst e
  obtain ⟨es, cl, h1, _⟩ := h.memo
  rw [hb] at h1; cases h1

/-! ### least, greatest, the moves -/
theorem max2_some (a b : Int) : slices_Max_int_int.f 3 [a, b] = some (max a b) := by
  simp [slices_Max_int_int.f, slices_Max_int_int.l0, rd, mx, wrap64, Int.max_def]
  split <;> split <;> first | rfl | omega
theorem min2_some (a b : Int) : slices_Min_int_int.f 3 [a, b] = some (min a b) := by
  simp [slices_Min_int_int.f, slices_Min_int_int.l0, rd, mn, wrap64, Int.min_def]
  split <;> split <;> first | rfl | omega
theorem greatest2 (a b : Int) : stair_greatest.f 3 [a, b] = some (max a b) := by unfold stair_greatest.f; rw [max2_some]; rfl
theorem least2 (a b : Int) : stair_least.f 3 [a, b] = some (min a b) := by unfold stair_least.f; rw [min2_some]; rfl
/-- A move, called by its number. -/
theorem to_calls (r : Nat) (hr : r < 3) (L st : Int) (A : Option Addr) (c : Nat) (xs : List S67) (l : Int) (w : World) (hx : Kd.C k67 w A xs.length xs) (hc : xs.length ≤ c) (hL : L ≤ 8) (hL1 : 1 ≤ L) (h0 : 0 ≤ l) (h1 : l < L) :
    Calls Try.prog (77 + r) #[.agg #[.int .i64 L, .int .i64 st, .slice A xs.length c], .int .i64 l] w fun e w' => e = .returned (.int .i64 (nxt L l r)) ∧ Below w.heap.size w w' := by
  have e1 : wrap64 (l - 1) = l - 1 := by unfold wrap64; omega
  have e2 : wrap64 (l + 1) = l + 1 := by unfold wrap64; omega
  have e3 : wrap64 (L - 1) = L - 1 := by unfold wrap64; omega
  match r, hr with
  | 0, _ => exact stair_Stairs_lower.calls 3 L st A c xs l _ w hx hc (by unfold stair_Stairs_lower.f; rw [greatest2, e1]; simp [nxt])
  | 1, _ => exact stair_Stairs_higher.calls 3 L st A c xs l _ w hx hc (by unfold stair_Stairs_higher.f; rw [least2, e2, e3]; simp [nxt])
  | 2, _ => exact stair_Stairs_stays.calls L st A c xs l _ w hx hc (by simp [stair_Stairs_stays.f, nxt])
/-- may. -/
theorem may_calls (L st : Int) (A : Option Addr) (c : Nat) (xs : List S67) (k : Nat) (x : S67) (l r : Int) (w : World) (hx : Kd.C k67 w A xs.length xs) (hc : xs.length ≤ c) (hk : xs[k]? = some x) :
    Calls Try.prog 60 #[.agg #[.int .i64 L, .int .i64 st, .slice A xs.length c], .agg #[.int .i64 k, .int .i64 l], .int .u8 r] w fun e w' => e = .returned (.bool (mayB x l r)) ∧ Below w.heap.size w w' := by
  refine stair_Stairs_may.calls L st A c xs k l r _ w hx hc ?_
  have hl := (List.getElem?_eq_some_iff.1 hk).1
  have hrd : rd_T67 xs k = x := by unfold rd_T67; simp [List.getD_eq_getElem?_getD, hk]
  unfold stair_Stairs_may.f
  rw [if_pos (by omega), if_pos (by omega), hrd]
  unfold mayB
  by_cases a1 : x.f0 = -1
  · by_cases a2 : x.f1 = 3 <;> simp [a1, a2]
  · by_cases a3 : x.f0 = l <;> by_cases a2 : x.f1 = 3 <;> simp [a1, a2, a3]
/-- moves: three functions in new memory. -/
def mvs : Array Value := #[.func (.func 77) #[] #[], .func (.func 78) #[] #[], .func (.func 79) #[] #[]]
theorem moves_calls (w : World) :
    Calls Try.prog 61 #[] w fun e w' => ∃ g, e = .returned (.slice (some ⟨g, 0, none⟩) 3 3) ∧ w.heap.size ≤ g ∧ w'.heap[g]? = some (.cells mvs 108 (0, 0)) ∧ Below w.heap.size w w' := by
  have hu108 := Try.underlying108
  go_enter Try.func61, Try.ntmps61
  go_wp2_with fail
  go_ret
  exact ⟨_, rfl, Nat.le_refl _, blk_new w _, (Below.refl _ _).alloc (Nat.le_refl _) _⟩
end Go.Proofs.Ytkglggggmlnleaa.Print
