/- General words for the staircases: what a call may change (Ch), a region inside a round, a range over a function whose iterator changes cells of its own. -/
import Derived.Test.YtkglggggmlnleaaXA
import Derived.RangeFuncNested
import Derived.RangeFuncBound
import Derived.RangeFuncCalls
import Derived.RangeFuncLeaves
import Derived.Shelf.Abstract
import Derived.Shelf.RegionOpen
import Derived.OwnWalkIn
import Derived.TacticsInMore
import Derived.LoopNIn
import Derived.LoopIn
namespace Go
open Go.RowKit

/-- From w to w' only the blocks of S, and new ones, have changed. -/
structure Ch (S : Nat → Prop) (w w' : World) : Prop where
  os : w'.os = w.os
  tape : w'.tape = w.tape
  output : w'.output = w.output
  size : w.heap.size ≤ w'.heap.size
  block : ∀ b, b < w.heap.size → ¬ S b → w'.heap[b]? = w.heap[b]?
theorem Ch.refl (S : Nat → Prop) (w : World) : Ch S w w := ⟨rfl, rfl, rfl, Nat.le_refl _, fun _ _ _ => rfl⟩
theorem Ch.trans {S : Nat → Prop} {a b c : World} (h : Ch S a b) (k : Ch S b c) : Ch S a c :=
  ⟨k.os.trans h.os, k.tape.trans h.tape, k.output.trans h.output, Nat.le_trans h.size k.size,
   fun i hi hs => (k.block i (Nat.lt_of_lt_of_le hi h.size) hs).trans (h.block i hi hs)⟩
theorem Ch.imp {S S' : Nat → Prop} {a b : World} (h : Ch S a b) (hs : ∀ i, i < a.heap.size → S i → S' i) : Ch S' a b :=
  ⟨h.os, h.tape, h.output, h.size, fun i hi hn => h.block i hi (fun hx => hn (hs i hi hx))⟩
/-- Two steps, each with its own set: of the second one only what lay at the first's begin counts. -/
theorem Ch.then_ {S S1 S2 : Nat → Prop} {a b c : World} (h : Ch S1 a b) (k : Ch S2 b c) (h1 : ∀ i, i < a.heap.size → S1 i → S i) (h2 : ∀ i, i < a.heap.size → S2 i → S i) : Ch S a c :=
  ⟨k.os.trans h.os, k.tape.trans h.tape, k.output.trans h.output, Nat.le_trans h.size k.size,
   fun i hi hs => (k.block i (Nat.lt_of_lt_of_le hi h.size) (fun hx => hs (h2 i hi hx))).trans (h.block i hi (fun hx => hs (h1 i hi hx)))⟩
theorem Ch.of_below {S : Nat → Prop} {a b : World} (h : Below a.heap.size a b) : Ch S a b := ⟨h.os, h.tape, h.output, h.size, fun i hi _ => h.block i hi⟩
theorem Ch.of_belowB {S : Nat → Prop} {B : Nat} {a b : World} (h : Below B a b) (hS : ∀ i, i < a.heap.size → B ≤ i → S i) : Ch S a b :=
  ⟨h.os, h.tape, h.output, h.size, fun i hi hn => h.block i (Nat.lt_of_not_le fun hx => hn (hS i hi hx))⟩
theorem Ch.below {S : Nat → Prop} {B : Nat} {a b : World} (h : Ch S a b) (hB : B ≤ a.heap.size) (hS : ∀ i, i < B → ¬ S i) : Below B a b :=
  ⟨h.os, h.tape, h.output, h.size, fun i hi => h.block i (Nat.lt_of_lt_of_le hi hB) (hS i hi)⟩
theorem Ch.alloc {S : Nat → Prop} {a b : World} (h : Ch S a b) (o : Obj) : Ch S a (b.alloc o) := h.trans (.of_below (below_new b o))
  where below_new (b : World) (o : Obj) : Below b.heap.size b (b.alloc o) := (Below.refl _ b).alloc (Nat.le_refl _) o
theorem Ch.drew {S : Nat → Prop} {a b : World} (h : Ch S a b) : Ch S a b.drew := ⟨h.os, h.tape, h.output, h.size, h.block⟩
theorem Ch.drewN {S : Nat → Prop} {a b : World} (h : Ch S a b) (n : Nat) : Ch S a (b.drewN n) := ⟨h.os, h.tape, h.output, h.size, h.block⟩
theorem setCell_size (w : World) (p : Addr) (u : Value) : (w.setCell p u).heap.size = w.heap.size := by simp [World.setCell]
theorem Ch.setCell {S : Nat → Prop} {a b : World} (h : Ch S a b) (p : Addr) (u : Value) (hp : p.block < a.heap.size → S p.block) : Ch S a (b.setCell p u) :=
  ⟨h.os, h.tape, h.output, by rw [setCell_size]; exact h.size, fun i hi hn => by
    rw [Below.heap_setCell b p u i (fun e => hn (e ▸ hp (e ▸ hi)))]
    exact h.block i hi hn⟩
theorem Ch.heap {S : Nat → Prop} {a b : World} {g : Nat} {o : Obj} (h : Ch S a b) (hg : a.heap[g]? = some o) (hs : ¬ S g) : b.heap[g]? = some o :=
  (h.block g (Array.getElem?_eq_some_iff.1 hg).1 hs).trans hg

/-! ### A region inside a round, out of a plain one -/
section
variable {P : Program} {ops : Array Oper} {Q : Exit → Act → World → Prop}
/-- The wide fence, in a round or in none. -/
def FW (ro : Option Nat) : Fence := { Fence.wide with round := ro }
theorem CallsIn.of_calls {n : Nat} {ro : Option Nat} {f : FuncId} {args : Array Value} {w : World} {R : Ending → World → Prop} (h : Calls P f args w R) : CallsIn (FW ro) n P f args w R :=
  show CallsIn Fence.wide n P f args w R from callsIn_wide.2 h
theorem rowsIn_of_rows {n : Nat} {ro : Option Nat} {row : String} {args : Array Value} {w : World} {R : Value → World → Prop} (h : Rows P row args w R) : RowsIn (FW ro) n P row args w R :=
  fun c cs _ => let ⟨v, w', r, s⟩ := h c cs; ⟨v, w', r, stepsIn_wide.2 s⟩
theorem uponIn_of_upon {n : Nat} {ro : Option Nat} {o : Oper} {a : Act} {next next' : Act → World → Prop} {R : Result Next} (hn : ∀ a w, next a w → next' a w) (h : o.upon P a next Q R) :
    o.uponIn (FW ro) n P a next' Q R := by
  cases R with
  | ok x w =>
    cases x with
    | value v => exact hn _ _ h
    | skip => exact hn _ _ h
    | defer d => exact hn _ _ h
    | enter f args =>
      refine ⟨fun hd => by simp [FW, Fence.wide] at hd, CallsIn.of_calls ?_⟩
      refine Calls.mono (show Calls P f args w _ from h) fun e w'' he => ?_
      cases e with
      | returned v => exact hn _ _ he
      | panicked ch => exact he
      | outgrown => exact he
    | row r args =>
      refine ⟨fun hd => by simp [FW, Fence.wide] at hd, rowsIn_of_rows ?_⟩
      exact Rows.mono (show Rows P r args w _ from h) fun v w'' he => hn _ _ he
    | _ => first | exact h | exact absurd h (by simp [Oper.upon])
  | halt x w =>
    cases x <;> first | exact h | exact absurd h (by simp [Oper.upon])

theorem wpOpsIn_of_wpOps {n : Nat} {ro : Option Nat} (hQ : ¬ LetsOut Q) (hd : ∀ (i : Nat) (o : Oper), ops[i]? = some o → ∀ c, o.op ≠ .defer c) :
    ∀ (is : List Nat) (a : Act) (w : World), wpOps P ops Q is a w → wpOpsIn (FW ro) n P ops Q is a w
  | [], a, w, h => h
  | i :: rest, a, w, h => by
    have ih := wpOpsIn_of_wpOps (n := n) (ro := ro) hQ hd rest
    simp only [wpOps, wpOpsIn] at h ⊢
    cases ho : ops[i]? with
    | none => simp only [ho] at h ⊢; exact ih _ _ h
    | some o =>
      simp only [ho] at h ⊢
      by_cases hw : Region.wanted o (yielded ops a.tmps) = true
      · rw [if_pos hw] at h ⊢
        rcases h with h | ⟨_, h⟩
        · refine ⟨fun _ _ => trivial, ?_⟩
          rw [Oper.semAt_eq _ _ _ (hd i o ho)]
          exact uponIn_of_upon ih h
        · exact absurd h hQ
      · rw [if_neg hw] at h ⊢
        exact ⟨fun _ _ => trivial, ih _ _ h⟩
def noDefer : Op → Bool
  | .defer _ => false
  | _ => true
theorem noDefer_of {L : List Oper} (hd : L.all (fun o => noDefer o.op) = true) : ∀ (i : Nat) (o : Oper), L.toArray[i]? = some o → ∀ c, o.op ≠ .defer c := fun i o ho c e => by
  have := (List.all_eq_true.1 hd) o (List.mem_of_getElem? (by simpa using ho))
  rw [e] at this
  cases this
/-- A region that draws its order: out of a plain walk. -/
theorem wpIn_of_any {n id : Nat} {ro : Option Nat} {a : Act} {w : World} {L : List Oper} (hm : P.follows .mixedOrders = true) (hQ : ¬ LetsOut Q) (hd : L.all (fun o => noDefer o.op) = true)
    (h : wpAny P .any L.toArray Q L.toArray.size (Array.replicate L.toArray.size false) a { w with drawn := w.drawn + 1 }) : (Code.region id L.toArray true).wpIn (FW ro) n P Q a w :=
  wpIn_region_draw fun t => wpOpsIn_of_wpOps hQ (noDefer_of hd) _ _ _ (by
    simp only [Region.schedule, hm, Bool.true_or, if_true]
    exact wpAny_sound L.toArray.size t _ a _ h)
end

/-! ### A range over a function whose iterator changes blocks of its own -/
section
variable {P : Program}

/-- How a round may be left. -/
def roundEnd {α : Type} (Sb : Nat → Prop) (I : List α → World → Prop) (Ix : Code → List α → World → Prop) (xs : List α) (W : World) : Exit → Act → World → Prop
  | .normal, _, W' => Ch Sb W W' ∧ I xs W'
  | .ret, _, W' => Ch Sb W W' ∧ Ix .ret xs W'
  | .exit id, _, W' => Ch Sb W W' ∧ Ix (.exit id) xs W'
  | .goto t, _, W' => Ch Sb W W' ∧ Ix (.goto t) xs W'
  | .panic _, _, _ => False
  | .outgrown, _, _ => False

end
end Go
