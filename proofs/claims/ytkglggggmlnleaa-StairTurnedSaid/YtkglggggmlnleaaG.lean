/- General words for the staircases: what a call may change (Ch), a region inside a round, a range over a function whose iterator changes cells of its own. -/
import Derived.Test.YtkglggggmlnleaaXA
import Derived.RangeFuncNested
import Derived.RangeFuncBound
import Derived.RangeFuncCalls
import Derived.RangeFuncLeaves
import Derived.Shelf.Abstract
import Derived.Shelf.RegionOpen
import Derived.OwnWalkIn
import Derived.TacticsInMore
import Derived.LoopNIn
import Derived.LoopIn
namespace Go
open Go.RowKit

/-- From w to w' only the blocks of S, and new ones, have changed. -/
structure Ch (S : Nat → Prop) (w w' : World) : Prop where
  os : w'.os = w.os
  tape : w'.tape = w.tape
  output : w'.output = w.output
  size : w.heap.size ≤ w'.heap.size
  block : ∀ b, b < w.heap.size → ¬ S b → w'.heap[b]? = w.heap[b]?
theorem Ch.refl (S : Nat → Prop) (w : World) : Ch S w w := ⟨rfl, rfl, rfl, Nat.le_refl _, fun _ _ _ => rfl⟩
theorem Ch.trans {S : Nat → Prop} {a b c : World} (h : Ch S a b) (k : Ch S b c) : Ch S a c :=
  ⟨k.os.trans h.os, k.tape.trans h.tape, k.output.trans h.output, Nat.le_trans h.size k.size,
   fun i hi hs => (k.block i (Nat.lt_of_lt_of_le hi h.size) hs).trans (h.block i hi hs)⟩
theorem Ch.imp {S S' : Nat → Prop} {a b : World} (h : Ch S a b) (hs : ∀ i, i < a.heap.size → S i → S' i) : Ch S' a b :=
  ⟨h.os, h.tape, h.output, h.size, fun i hi hn => h.block i hi (fun hx => hn (hs i hi hx))⟩
/-- Two steps, each with its own set: of the second one only what lay at the first's begin counts. -/
theorem Ch.then_ {S S1 S2 : Nat → Prop} {a b c : World} (h : Ch S1 a b) (k : Ch S2 b c) (h1 : ∀ i, i < a.heap.size → S1 i → S i) (h2 : ∀ i, i < a.heap.size → S2 i → S i) : Ch S a c :=
  ⟨k.os.trans h.os, k.tape.trans h.tape, k.output.trans h.output, Nat.le_trans h.size k.size,
   fun i hi hs => (k.block i (Nat.lt_of_lt_of_le hi h.size) (fun hx => hs (h2 i hi hx))).trans (h.block i hi (fun hx => hs (h1 i hi hx)))⟩
theorem Ch.of_below {S : Nat → Prop} {a b : World} (h : Below a.heap.size a b) : Ch S a b := ⟨h.os, h.tape, h.output, h.size, fun i hi _ => h.block i hi⟩
theorem Ch.below {S : Nat → Prop} {B : Nat} {a b : World} (h : Ch S a b) (hB : B ≤ a.heap.size) (hS : ∀ i, i < B → ¬ S i) : Below B a b :=
  ⟨h.os, h.tape, h.output, h.size, fun i hi => h.block i (Nat.lt_of_lt_of_le hi hB) (hS i hi)⟩
theorem Ch.alloc {S : Nat → Prop} {a b : World} (h : Ch S a b) (o : Obj) : Ch S a (b.alloc o) := h.trans (.of_below (below_new b o))
  where below_new (b : World) (o : Obj) : Below b.heap.size b (b.alloc o) := (Below.refl _ b).alloc (Nat.le_refl _) o
theorem Ch.drew {S : Nat → Prop} {a b : World} (h : Ch S a b) : Ch S a b.drew := ⟨h.os, h.tape, h.output, h.size, h.block⟩
theorem Ch.drewN {S : Nat → Prop} {a b : World} (h : Ch S a b) (n : Nat) : Ch S a (b.drewN n) := ⟨h.os, h.tape, h.output, h.size, h.block⟩
theorem setCell_size (w : World) (p : Addr) (u : Value) : (w.setCell p u).heap.size = w.heap.size := by simp [World.setCell]
theorem Ch.setCell {S : Nat → Prop} {a b : World} (h : Ch S a b) (p : Addr) (u : Value) (hp : p.block < a.heap.size → S p.block) : Ch S a (b.setCell p u) :=
  ⟨h.os, h.tape, h.output, by rw [setCell_size]; exact h.size, fun i hi hn => by
    rw [Below.heap_setCell b p u i (fun e => hn (e ▸ hp (e ▸ hi)))]
    exact h.block i hi hn⟩
theorem Ch.heap {S : Nat → Prop} {a b : World} {g : Nat} {o : Obj} (h : Ch S a b) (hg : a.heap[g]? = some o) (hs : ¬ S g) : b.heap[g]? = some o :=
  (h.block g (Array.getElem?_eq_some_iff.1 hg).1 hs).trans hg
theorem Ch.putObj {S : Nat → Prop} {a b : World} (h : Ch S a b) (r : Nat) (o : Obj) (hr : r < a.heap.size → S r) : Ch S a (b.putObj r o) :=
  ⟨h.os, h.tape, h.output, by simp [World.putObj]; exact h.size, fun i hi hn => by
    rw [World.putObj_heap_other (fun e : i = r => hn (by subst e; exact hr hi))]
    exact h.block i hi hn⟩

/-! ### A region inside a round, out of a plain one -/
section
variable {P : Program} {ops : Array Oper} {Q : Exit → Act → World → Prop}
/-- The wide fence, in a round or in none. -/
def FW (ro : Option Nat) : Fence := { Fence.wide with round := ro }
theorem CallsIn.of_calls {n : Nat} {ro : Option Nat} {f : FuncId} {args : Array Value} {w : World} {R : Ending → World → Prop} (h : Calls P f args w R) : CallsIn (FW ro) n P f args w R :=
  show CallsIn Fence.wide n P f args w R from callsIn_wide.2 h
theorem rowsIn_of_rows {n : Nat} {ro : Option Nat} {row : String} {args : Array Value} {w : World} {R : Value → World → Prop} (h : Rows P row args w R) : RowsIn (FW ro) n P row args w R :=
  fun c cs _ => let ⟨v, w', r, s⟩ := h c cs; ⟨v, w', r, stepsIn_wide.2 s⟩
theorem uponIn_of_upon {n : Nat} {ro : Option Nat} {o : Oper} {a : Act} {next next' : Act → World → Prop} {R : Result Next} (hn : ∀ a w, next a w → next' a w) (h : o.upon P a next Q R) :
    o.uponIn (FW ro) n P a next' Q R := by
  cases R with
  | ok x w =>
    cases x with
    | value v => exact hn _ _ h
    | skip => exact hn _ _ h
    | defer d => exact hn _ _ h
    | enter f args =>
      refine ⟨fun hd => by simp [FW, Fence.wide] at hd, CallsIn.of_calls ?_⟩
      refine Calls.mono (show Calls P f args w _ from h) fun e w'' he => ?_
      cases e with
      | returned v => exact hn _ _ he
      | panicked ch => exact he
      | outgrown => exact he
    | row r args =>
      refine ⟨fun hd => by simp [FW, Fence.wide] at hd, rowsIn_of_rows ?_⟩
      exact Rows.mono (show Rows P r args w _ from h) fun v w'' he => hn _ _ he
    | _ => first | exact h | exact absurd h (by simp [Oper.upon])
  | halt x w =>
    cases x <;> first | exact h | exact absurd h (by simp [Oper.upon])

theorem wpOpsIn_of_wpOps {n : Nat} {ro : Option Nat} (hQ : ¬ LetsOut Q) (hd : ∀ (i : Nat) (o : Oper), ops[i]? = some o → ∀ c, o.op ≠ .defer c) :
    ∀ (is : List Nat) (a : Act) (w : World), wpOps P ops Q is a w → wpOpsIn (FW ro) n P ops Q is a w
  | [], a, w, h => h
  | i :: rest, a, w, h => by
    have ih := wpOpsIn_of_wpOps (n := n) (ro := ro) hQ hd rest
    simp only [wpOps, wpOpsIn] at h ⊢
    cases ho : ops[i]? with
    | none => simp only [ho] at h ⊢; exact ih _ _ h
    | some o =>
      simp only [ho] at h ⊢
      by_cases hw : Region.wanted o (yielded ops a.tmps) = true
      · rw [if_pos hw] at h ⊢
        rcases h with h | ⟨_, h⟩
        · refine ⟨fun _ _ => trivial, ?_⟩
          rw [Oper.semAt_eq _ _ _ (hd i o ho)]
          exact uponIn_of_upon ih h
        · exact absurd h hQ
      · rw [if_neg hw] at h ⊢
        exact ⟨fun _ _ => trivial, ih _ _ h⟩
def noDefer : Op → Bool
  | .defer _ => false
  | _ => true
theorem noDefer_of {L : List Oper} (hd : L.all (fun o => noDefer o.op) = true) : ∀ (i : Nat) (o : Oper), L.toArray[i]? = some o → ∀ c, o.op ≠ .defer c := fun i o ho c e => by
  have := (List.all_eq_true.1 hd) o (List.mem_of_getElem? (by simpa using ho))
  rw [e] at this
  cases this
/-- A region that draws its order: out of a plain walk. -/
theorem wpIn_of_any {n id : Nat} {ro : Option Nat} {a : Act} {w : World} {L : List Oper} (hm : P.follows .mixedOrders = true) (hQ : ¬ LetsOut Q) (hd : L.all (fun o => noDefer o.op) = true)
    (h : wpAny P .any L.toArray Q L.toArray.size (Array.replicate L.toArray.size false) a { w with drawn := w.drawn + 1 }) : (Code.region id L.toArray true).wpIn (FW ro) n P Q a w :=
  wpIn_region_draw fun t => wpOpsIn_of_wpOps hQ (noDefer_of hd) _ _ _ (by
    simp only [Region.schedule, hm, Bool.true_or, if_true]
    exact wpAny_sound L.toArray.size t _ a _ h)
end

/-! ### A range over a function whose iterator changes blocks of its own -/
section
variable {P : Program}
/-- An iterator's contract: g (with what it captured) in the world w, for the loop record l: whatever the caller holds between two rounds (J), if a change of the iterator's own blocks (Si) leaves it. -/
def IterAt {α : Type} (P : Program) (g : Nat) (lb : Array Value) (encs : α → Array Value) (xs : List α) (Si Sb : Nat → Prop) (l : Nat) (w : World) : Prop :=
  ∀ (n : Nat) (J Jx : List α → World → Prop),
    (∀ pre W W', J pre W → Ch Si W W' → J pre W') → (∀ pre W W', Jx pre W → Ch Si W W' → Jx pre W') →
    (∀ pre x W1, J pre W1 → (pre ++ [x]) <+: xs → YieldAt Fence.wide (n - 1) P l (encs x) W1 fun e W' =>
      (e = .returned (.bool true) ∧ J (pre ++ [x]) W' ∧ Ch Sb W1 W') ∨ (e = .returned (.bool false) ∧ Jx (pre ++ [x]) W')) →
    J [] w →
    CallsIn Fence.wide n P g (#[.func (.yield l) #[] #[]] ++ lb) w fun e W' => (∃ v, e = .returned v) ∧ (J xs W' ∨ ∃ pre, pre <+: xs ∧ Jx pre W')

/-- How a round may be left. -/
def roundEnd {α : Type} (Sb : Nat → Prop) (I : List α → World → Prop) (Ix : Code → List α → World → Prop) (xs : List α) (W : World) : Exit → Act → World → Prop
  | .normal, _, W' => Ch Sb W W' ∧ I xs W'
  | .ret, _, W' => Ch Sb W W' ∧ Ix .ret xs W'
  | .exit id, _, W' => Ch Sb W W' ∧ Ix (.exit id) xs W'
  | .goto t, _, W' => Ch Sb W W' ∧ Ix (.goto t) xs W'
  | .panic _, _, _ => False
  | .outgrown, _, _ => False

theorem wpIn_range {α : Type} {g : Operand} {ps : Array Tmp} {assign body : Code} {Q : Exit → Act → World → Prop} {a : Act} {w : World} {n : Nat}
    {gf : Nat} {lb : Array Value} (hg : a.eval g = .func (.func gf) #[] lb) (eg : ∀ args w, (callFunc gf args).run P w = .ok (.enter gf args) w)
    {encs : α → Array Value} {xs : List α} {Si Sb : Nat → Prop}
    (hseq : ∀ fn, IterAt P gf lb encs xs Si (fun b => Sb b ∨ b = w.heap.size + 1) (w.heap.size + 1)
      ((w.alloc (.deferred (some []))).alloc (.loop { state := .ready, pending := none, fn, tmps := a.tmps, params := ps, assign, body, defers := w.heap.size })))
    (hps : ∀ x, (encs x).size = ps.size)
    (hSi : ¬ Si w.heap.size) (hSi' : ¬ Si (w.heap.size + 1)) (hSb : ¬ Sb w.heap.size) (hSb' : ¬ Sb (w.heap.size + 1))
    (I : List α → World → Prop) (Ix : Code → List α → World → Prop)
    (hI : ∀ pre W W', I pre W → Ch (fun b => Si b ∨ b = w.heap.size + 1) W W' → I pre W')
    (hIx : ∀ c pre W W', Ix c pre W → Ch (fun b => Si b ∨ b = w.heap.size + 1) W W' → Ix c pre W') (h0 : I [] w)
    (Ax : α → Act → World → Prop) (hAx : ∀ x a' W o, Ax x a' W → Ax x a' (W.putObj (w.heap.size + 1) o))
    (hassign : ∀ (pre : List α) (x : α) (W : World) (K : Act → World → Prop), w.heap.size + 1 < W.heap.size → I pre W → (pre ++ [x]) <+: xs → (∀ a' W', Below W.heap.size W W' → Ax x a' W' → K a' W') →
      assign.wpIn (Fence.wide.inRound (w.heap.size + 1)) (n - 1 - 1) P (Exit.then K (fun _ _ _ => False)) { tmps := (ps.zip (encs x)).foldl (fun t (p, v) => t.setIfInBounds p v) a.tmps, defers := [] } W)
    (hbody : ∀ (pre : List α) (x : α) (a' : Act) (W : World), w.heap.size + 1 < W.heap.size → I pre W → Ax x a' W → (pre ++ [x]) <+: xs →
      body.wpIn (Fence.wide.inRound (w.heap.size + 1)) (n - 1 - 1) P (roundEnd Sb I Ix (pre ++ [x]) W) a' W)
    (hdone : ∀ (W : World), I xs W → W.heap[w.heap.size]? = some (.deferred (some [])) → Q .normal { a with defers := { target := .collected w.heap.size, args := #[] } :: a.defers } W)
    (hstop : ∀ (c : Code) (pre : List α) (W : World), pre <+: xs → Ix c pre W → W.heap[w.heap.size]? = some (.deferred (some [])) → c.wpIn Fence.wide n P Q { a with defers := { target := .collected w.heap.size, args := #[] } :: a.defers } W) :
    (Code.rangeFunc g ps assign body).wpIn Fence.wide n P Q a w := by
  refine wpIn_rangeFunc ?_
  intro fn hfn
  obtain ⟨rec, hrec⟩ : ∃ rec : LoopState → Option Code → Loop, rec = fun st pe => { state := st, pending := pe, fn, tmps := a.tmps, params := ps, assign, body, defers := w.heap.size } := ⟨_, rfl⟩
  obtain ⟨W1, hW1⟩ : ∃ W1, (w.alloc (.deferred (some []))).alloc (.loop (rec .ready none)) = W1 := ⟨_, rfl⟩
  have hL1 : W1.heap[w.heap.size + 1]? = some (.loop (rec .ready none)) := by
    rw [← hW1]; have := World.alloc_heap_new (w.alloc (.deferred (some []))) (.loop (rec .ready none)); rwa [World.size_alloc] at this
  have hK1 : W1.heap[w.heap.size]? = some (.deferred (some [])) := by
    rw [← hW1]; exact (Below.heap_alloc _ _ _ (by simp)).trans (World.alloc_heap_new w _)
  have hI1 : I [] W1 := by rw [← hW1]; exact hI _ _ _ h0 (((Ch.refl _ w).alloc _).alloc _)
  refine ⟨w.heap.size + 1, [{ target := .collected w.heap.size, args := #[] }], W1, { target := .fn (.func gf) lb, args := #[.func (.yield (w.heap.size + 1)) #[] #[]] }, W1, gf,
    #[.func (.yield (w.heap.size + 1)) #[] #[]] ++ lb, W1, ?_, ?_, ?_, ?_, fun h => by simp [Fence.wide] at h, ?_⟩
  · rw [← hW1, hrec]; exact run_enterLoop_outer _ _ _ _ _
  · simp only [resolve, hg]
    simp [go_sem]
  · intro f' hf'; exact trivial
  · simp [invoke, go_sem, eg]
  · have hs := hseq fn
    rw [show ((w.alloc (.deferred (some []))).alloc (.loop { state := .ready, pending := none, fn, tmps := a.tmps, params := ps, assign, body, defers := w.heap.size })) = W1 by rw [← hW1, hrec]] at hs
    refine (hs (n - 1)
      (fun pre W => I pre W ∧ W.heap[w.heap.size + 1]? = some (.loop (rec .ready none)) ∧ W.heap[w.heap.size]? = some (.deferred (some [])))
      (fun pre W => ∃ c, Ix c pre W ∧ W.heap[w.heap.size + 1]? = some (.loop (rec .done (some c))) ∧ W.heap[w.heap.size]? = some (.deferred (some [])))
      (fun pre A B hs hc => ⟨hI _ _ _ hs.1 (hc.imp fun _ _ h => .inl h), hc.heap hs.2.1 hSi', hc.heap hs.2.2 hSi⟩)
      (fun pre A B hs hc => by
        obtain ⟨c, hx, hl, hk⟩ := hs
        exact ⟨c, hIx _ _ _ _ hx (hc.imp fun _ _ h => .inl h), hc.heap hl hSi', hc.heap hk hSi⟩)
      ?_ ⟨hI1, hL1, hK1⟩).mono ?_
    · rintro pre x W ⟨hi, hl, hk⟩ hpre
      have hlt : w.heap.size + 1 < W.heap.size := (Array.getElem?_eq_some_iff.1 hl).1
      have hy := run_yield (P := P) (args := encs x) hl (by rw [hrec]; exact hps x)
      rw [hrec] at hy
      refine ⟨fn, _, assign, body, hy, roundIn_of_wpIn hfn (hassign pre x W _ hlt hi hpre ?_)⟩
      clear hy
      intro a' Wa hba hax
      have hla := (hba.block _ hlt).trans hl
      have hka := (hba.block _ (by omega)).trans hk
      have hia : I pre Wa := hI _ _ _ hi (.of_below hba)
      have hlta : w.heap.size + 1 < Wa.heap.size := Nat.lt_of_lt_of_le hlt hba.size
      refine ⟨_, run_beginRound hla (by rw [hrec]), ?_⟩
      obtain ⟨W2, hW2⟩ : ∃ W2, Wa.putObj (w.heap.size + 1) (.loop { rec .ready none with state := .busy }) = W2 := ⟨_, rfl⟩
      rw [hW2]
      have hl2 : W2.heap[w.heap.size + 1]? = some (.loop { rec .ready none with state := .busy }) := by rw [← hW2]; exact World.putObj_heap_same hlta
      have hk2 : W2.heap[w.heap.size]? = some (.deferred (some [])) := by rw [← hW2]; exact (World.putObj_heap_other (by omega)).trans hka
      have hc2 : Ch (fun b => Sb b ∨ b = w.heap.size + 1) W W2 := by rw [← hW2]; exact (Ch.of_below hba).putObj _ _ (fun _ => .inr rfl)
      have hi2 : I pre W2 := by rw [← hW2]; exact hI _ _ _ hia ((Ch.refl _ Wa).putObj _ _ (fun _ => .inr rfl))
      have hx2 : Ax x a' W2 := by rw [← hW2]; exact hAx _ _ _ _ hax
      refine wpIn_mono (hbody pre x a' W2 (by rw [← hW2]; simpa [World.putObj] using hlta) hi2 hx2 hpre) ?_
      have fin : ∀ (jump : Option Code) (W3 : World), Ch Sb W2 W3 →
          (Instr.endRound (w.heap.size + 1) jump).run P W3 = .ok (.bool jump.isNone) (W3.putObj (w.heap.size + 1) (.loop (rec (if jump.isNone then .ready else .done) jump))) ∧
          (W3.putObj (w.heap.size + 1) (.loop (rec (if jump.isNone then .ready else .done) jump))).heap[w.heap.size + 1]? = some (.loop (rec (if jump.isNone then .ready else .done) jump)) ∧
          (W3.putObj (w.heap.size + 1) (.loop (rec (if jump.isNone then .ready else .done) jump))).heap[w.heap.size]? = some (.deferred (some [])) := fun jump W3 hk3 => by
        have hl3 := hk3.heap hl2 hSb'
        have := run_endRound (P := P) jump hl3
        rw [hrec] at this ⊢
        exact ⟨this, World.putObj_heap_same (Array.getElem?_eq_some_iff.1 hl3).1, (World.putObj_heap_other (by omega)).trans (hk3.heap hk2 hSb)⟩
      have back : ∀ (W3 : World) (o : Obj), Ch (fun b => Si b ∨ b = w.heap.size + 1) W3 (W3.putObj (w.heap.size + 1) o) := fun W3 o => (Ch.refl _ W3).putObj _ _ (fun _ => .inr rfl)
      rintro e a3 W3 hp
      cases e with
      | normal =>
        obtain ⟨hc3, hi3⟩ := hp
        obtain ⟨hr, hl4, hk4⟩ := fin none W3 hc3
        exact ⟨_, _, hr, .inl ⟨rfl, ⟨hI _ _ _ hi3 (back _ _), hl4, hk4⟩, (hc2.then_ hc3 (fun _ _ h => h) (fun _ _ h => .inl h)).putObj _ _ (fun _ => .inr rfl)⟩⟩
      | ret =>
        obtain ⟨hc3, hi3⟩ := hp
        obtain ⟨hr, hl4, hk4⟩ := fin (some .ret) W3 hc3
        exact ⟨_, _, hr, .inr ⟨rfl, .ret, hIx _ _ _ _ hi3 (back _ _), hl4, hk4⟩⟩
      | exit id =>
        obtain ⟨hc3, hi3⟩ := hp
        obtain ⟨hr, hl4, hk4⟩ := fin (some (.exit id)) W3 hc3
        exact ⟨_, _, hr, .inr ⟨rfl, .exit id, hIx _ _ _ _ hi3 (back _ _), hl4, hk4⟩⟩
      | goto t =>
        obtain ⟨hc3, hi3⟩ := hp
        obtain ⟨hr, hl4, hk4⟩ := fin (some (.goto t)) W3 hc3
        exact ⟨_, _, hr, .inr ⟨rfl, .goto t, hIx _ _ _ _ hi3 (back _ _), hl4, hk4⟩⟩
      | panic ch => exact hp.elim
      | outgrown => exact hp.elim
    · rintro e W2 ⟨⟨v, rfl⟩, (⟨hi, hl, hk⟩ | ⟨pre, hpre, c, hi, hl, hk⟩)⟩
      · exact ⟨none, _, by have := run_endLoop (P := P) hl (by rw [hrec]; simp); rw [hrec] at this; exact this, hdone _ (hI _ _ _ hi ((Ch.refl _ W2).putObj _ _ (fun _ => .inr rfl))) ((World.putObj_heap_other (by omega)).trans hk)⟩
      · exact ⟨some c, _, by have := run_endLoop (P := P) hl (by rw [hrec]; simp); rw [hrec] at this; exact this, hstop c pre _ hpre (hIx _ _ _ _ hi ((Ch.refl _ W2).putObj _ _ (fun _ => .inr rfl))) ((World.putObj_heap_other (by omega)).trans hk)⟩
end
end Go
