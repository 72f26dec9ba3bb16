/- A range over a function: what the body may change is told by the block and by what lies in it. The search of the iterator: one run further. A range over all histories. A range over all histories whose body writes rows of its own. A range over all histories, from the one whose body may write rows. -/
import Derived.Test.YtkglggggmlnleaaG
import Derived.Test.YtkglggggmlnleaaC
import Derived.Test.YtkglggggmlnleaaF2
import Derived.Deep.WholeRow
import Derived.Test.YtkglggggmlnleaaCk
import Derived.RangeFuncLeaves
import Derived.RangeFuncOwn
namespace Go
open Go.RowKit
/-- From w to w' only the blocks of S, told with what lay in them, and new ones have changed. -/
structure ChT (S : Nat → Obj → Prop) (w w' : World) : Prop where
  os : w'.os = w.os
  tape : w'.tape = w.tape
  output : w'.output = w.output
  size : w.heap.size ≤ w'.heap.size
  block : ∀ b o, w.heap[b]? = some o → ¬ S b o → w'.heap[b]? = some o
theorem ChT.refl (S : Nat → Obj → Prop) (w : World) : ChT S w w := ⟨rfl, rfl, rfl, Nat.le_refl _, fun _ _ h _ => h⟩
theorem ChT.trans {S : Nat → Obj → Prop} {a b c : World} (h : ChT S a b) (k : ChT S b c) : ChT S a c :=
  ⟨k.os.trans h.os, k.tape.trans h.tape, k.output.trans h.output, Nat.le_trans h.size k.size, fun i o hi hs => k.block i o (h.block i o hi hs) hs⟩
theorem ChT.imp {S S' : Nat → Obj → Prop} {a b : World} (h : ChT S a b) (hs : ∀ i o, S i o → S' i o) : ChT S' a b :=
  ⟨h.os, h.tape, h.output, h.size, fun i o hi hn => h.block i o hi (fun hx => hn (hs i o hx))⟩
theorem ChT.then_ {S S1 S2 : Nat → Obj → Prop} {a b c : World} (h : ChT S1 a b) (k : ChT S2 b c) (h1 : ∀ i o, S1 i o → S i o) (h2 : ∀ i o, S2 i o → S i o) : ChT S a c := (h.imp h1).trans (k.imp h2)
theorem ChT.of_ch {S : Nat → Prop} {S' : Nat → Obj → Prop} {a b : World} (h : Ch S a b) (hs : ∀ i o, a.heap[i]? = some o → S i → S' i o) : ChT S' a b :=
  ⟨h.os, h.tape, h.output, h.size, fun i o hi hn => (h.block i (Array.getElem?_eq_some_iff.1 hi).1 (fun hx => hn (hs i o hi hx))).trans hi⟩
theorem ChT.of_below {S : Nat → Obj → Prop} {a b : World} (h : Below a.heap.size a b) : ChT S a b := .of_ch (Ch.of_below (S := fun _ => False) h) (fun _ _ _ h => h.elim)
theorem ChT.alloc {S : Nat → Obj → Prop} {a b : World} (h : ChT S a b) (o : Obj) : ChT S a (b.alloc o) := h.trans (.of_below ((Below.refl _ b).alloc (Nat.le_refl _) o))
theorem ChT.heap {S : Nat → Obj → Prop} {a b : World} {g : Nat} {o : Obj} (h : ChT S a b) (hg : a.heap[g]? = some o) (hs : ¬ S g o) : b.heap[g]? = some o := h.block g o hg hs
theorem ChT.setCell {S : Nat → Obj → Prop} {a b : World} (h : ChT S a b) (p : Addr) (u : Value) (hp : ∀ o, a.heap[p.block]? = some o → S p.block o) : ChT S a (b.setCell p u) :=
  ⟨h.os, h.tape, h.output, by rw [setCell_size]; exact h.size, fun i o hi hn => by
    rw [Below.heap_setCell b p u i (fun e => hn (by subst e; exact hp o hi))]
    exact h.block i o hi hn⟩
theorem ChT.putObj {S : Nat → Obj → Prop} {a b : World} (h : ChT S a b) (r : Nat) (o' : Obj) (hr : ∀ o, a.heap[r]? = some o → S r o) : ChT S a (b.putObj r o') :=
  ⟨h.os, h.tape, h.output, by simp [World.putObj]; exact h.size, fun i o hi hn => by
    rw [World.putObj_heap_other (fun e : i = r => hn (by subst e; exact hr o hi))]
    exact h.block i o hi hn⟩
/-- A block of small numbers: the rows' own. -/
def Row5 : Obj → Prop
  | .cells _ t _ => t = 5
  | _ => False
/-! ### A range over a function whose iterator changes blocks of its own -/
section
variable {P : Program}
/-- An iterator's contract: g (with what it captured) in the world w, for the loop record l: whatever the caller holds between two rounds (J), if a change of the iterator's own blocks (Si) leaves it. -/
def IterAt5 {α : Type} (P : Program) (g : Nat) (lb : Array Value) (encs : α → Array Value) (xs : List α) (Si Sb : Nat → Obj → Prop) (l : Nat) (w : World) : Prop :=
  ∀ (n : Nat) (J Jx : List α → World → Prop),
    (∀ pre W W', J pre W → ChT Si W W' → J pre W') → (∀ pre W W', Jx pre W → ChT Si W W' → Jx pre W') →
    (∀ pre x W1, J pre W1 → (pre ++ [x]) <+: xs → YieldAt Fence.wide (n - 1) P l (encs x) W1 fun e W' =>
      (e = .returned (.bool true) ∧ J (pre ++ [x]) W' ∧ ChT Sb W1 W') ∨ (e = .returned (.bool false) ∧ Jx (pre ++ [x]) W')) →
    J [] w →
    CallsIn Fence.wide n P g (#[.func (.yield l) #[] #[]] ++ lb) w fun e W' => (∃ v, e = .returned v) ∧ (J xs W' ∨ ∃ pre, pre <+: xs ∧ Jx pre W')

/-- How a round may be left. -/
def roundEnd5 {α : Type} (Sb : Nat → Obj → Prop) (I : List α → World → Prop) (Ix : Code → List α → World → Prop) (xs : List α) (W : World) : Exit → Act → World → Prop
  | .normal, _, W' => ChT Sb W W' ∧ I xs W'
  | .ret, _, W' => ChT Sb W W' ∧ Ix .ret xs W'
  | .exit id, _, W' => ChT Sb W W' ∧ Ix (.exit id) xs W'
  | .goto t, _, W' => ChT Sb W W' ∧ Ix (.goto t) xs W'
  | .panic _, _, _ => False
  | .outgrown, _, _ => False

theorem wpIn_range5 {α : Type} {g : Operand} {ps : Array Tmp} {assign body : Code} {Q : Exit → Act → World → Prop} {a : Act} {w : World} {n : Nat}
    {gf : Nat} {lb : Array Value} (hg : a.eval g = .func (.func gf) #[] lb) (eg : ∀ args w, (callFunc gf args).run P w = .ok (.enter gf args) w)
    {encs : α → Array Value} {xs : List α} {Si Sb : Nat → Obj → Prop}
    (hseq : ∀ fn, IterAt5 P gf lb encs xs Si (fun b o => Sb b o ∨ b = w.heap.size + 1) (w.heap.size + 1)
      ((w.alloc (.deferred (some []))).alloc (.loop { state := .ready, pending := none, fn, tmps := a.tmps, params := ps, assign, body, defers := w.heap.size })))
    (hps : ∀ x, (encs x).size = ps.size)
    (hSi : ¬ Si w.heap.size (.deferred (some []))) (hSi' : ∀ l, ¬ Si (w.heap.size + 1) (.loop l)) (hSb : ¬ Sb w.heap.size (.deferred (some []))) (hSb' : ∀ l, ¬ Sb (w.heap.size + 1) (.loop l))
    (I : List α → World → Prop) (Ix : Code → List α → World → Prop)
    (hI : ∀ pre W W', I pre W → ChT (fun b o => Si b o ∨ b = w.heap.size + 1) W W' → I pre W')
    (hIx : ∀ c pre W W', Ix c pre W → ChT (fun b o => Si b o ∨ b = w.heap.size + 1) W W' → Ix c pre W') (h0 : I [] w)
    (Ax : α → Act → World → Prop) (hAx : ∀ x a' W o, Ax x a' W → Ax x a' (W.putObj (w.heap.size + 1) o))
    (hassign : ∀ (pre : List α) (x : α) (W : World) (K : Act → World → Prop), w.heap.size + 1 < W.heap.size → I pre W → (pre ++ [x]) <+: xs → (∀ a' W', Below W.heap.size W W' → Ax x a' W' → K a' W') →
      assign.wpIn (Fence.wide.inRound (w.heap.size + 1)) (n - 1 - 1) P (Exit.then K (fun _ _ _ => False)) { tmps := (ps.zip (encs x)).foldl (fun t (p, v) => t.setIfInBounds p v) a.tmps, defers := [] } W)
    (hbody : ∀ (pre : List α) (x : α) (a' : Act) (W : World), w.heap.size + 1 < W.heap.size → I pre W → Ax x a' W → (pre ++ [x]) <+: xs →
      body.wpIn (Fence.wide.inRound (w.heap.size + 1)) (n - 1 - 1) P (roundEnd5 Sb I Ix (pre ++ [x]) W) a' W)
    (hdone : ∀ (W : World), I xs W → W.heap[w.heap.size]? = some (.deferred (some [])) → Q .normal { a with defers := { target := .collected w.heap.size, args := #[] } :: a.defers } W)
    (hstop : ∀ (c : Code) (pre : List α) (W : World), pre <+: xs → Ix c pre W → W.heap[w.heap.size]? = some (.deferred (some [])) → c.wpIn Fence.wide n P Q { a with defers := { target := .collected w.heap.size, args := #[] } :: a.defers } W) :
    (Code.rangeFunc g ps assign body).wpIn Fence.wide n P Q a w := by
  refine wpIn_rangeFunc ?_
  intro fn hfn
  obtain ⟨rec, hrec⟩ : ∃ rec : LoopState → Option Code → Loop, rec = fun st pe => { state := st, pending := pe, fn, tmps := a.tmps, params := ps, assign, body, defers := w.heap.size } := ⟨_, rfl⟩
  obtain ⟨W1, hW1⟩ : ∃ W1, (w.alloc (.deferred (some []))).alloc (.loop (rec .ready none)) = W1 := ⟨_, rfl⟩
  have hL1 : W1.heap[w.heap.size + 1]? = some (.loop (rec .ready none)) := by
    rw [← hW1]; have := World.alloc_heap_new (w.alloc (.deferred (some []))) (.loop (rec .ready none)); rwa [World.size_alloc] at this
  have hK1 : W1.heap[w.heap.size]? = some (.deferred (some [])) := by
    rw [← hW1]; exact (Below.heap_alloc _ _ _ (by simp)).trans (World.alloc_heap_new w _)
  have hI1 : I [] W1 := by rw [← hW1]; exact hI _ _ _ h0 (((ChT.refl _ w).alloc _).alloc _)
  refine ⟨w.heap.size + 1, [{ target := .collected w.heap.size, args := #[] }], W1, { target := .fn (.func gf) lb, args := #[.func (.yield (w.heap.size + 1)) #[] #[]] }, W1, gf,
    #[.func (.yield (w.heap.size + 1)) #[] #[]] ++ lb, W1, ?_, ?_, ?_, ?_, fun h => by simp [Fence.wide] at h, ?_⟩
  · rw [← hW1, hrec]; exact run_enterLoop_outer _ _ _ _ _
  · simp only [resolve, hg]
    simp [go_sem]
  · intro f' hf'; exact trivial
  · simp [invoke, go_sem, eg]
  · have hs := hseq fn
    rw [show ((w.alloc (.deferred (some []))).alloc (.loop { state := .ready, pending := none, fn, tmps := a.tmps, params := ps, assign, body, defers := w.heap.size })) = W1 by rw [← hW1, hrec]] at hs
    refine (hs (n - 1)
      (fun pre W => I pre W ∧ W.heap[w.heap.size + 1]? = some (.loop (rec .ready none)) ∧ W.heap[w.heap.size]? = some (.deferred (some [])))
      (fun pre W => ∃ c, Ix c pre W ∧ W.heap[w.heap.size + 1]? = some (.loop (rec .done (some c))) ∧ W.heap[w.heap.size]? = some (.deferred (some [])))
      (fun pre A B hs hc => ⟨hI _ _ _ hs.1 (hc.imp fun _ _ h => .inl h), hc.heap hs.2.1 (hSi' _), hc.heap hs.2.2 hSi⟩)
      (fun pre A B hs hc => by
        obtain ⟨c, hx, hl, hk⟩ := hs
        exact ⟨c, hIx _ _ _ _ hx (hc.imp fun _ _ h => .inl h), hc.heap hl (hSi' _), hc.heap hk hSi⟩)
      ?_ ⟨hI1, hL1, hK1⟩).mono ?_
    · rintro pre x W ⟨hi, hl, hk⟩ hpre
      have hlt : w.heap.size + 1 < W.heap.size := (Array.getElem?_eq_some_iff.1 hl).1
      have hy := run_yield (P := P) (args := encs x) hl (by rw [hrec]; exact hps x)
      rw [hrec] at hy
      refine ⟨fn, _, assign, body, hy, roundIn_of_wpIn hfn (hassign pre x W _ hlt hi hpre ?_)⟩
      clear hy
      intro a' Wa hba hax
      have hla := (hba.block _ hlt).trans hl
      have hka := (hba.block _ (by omega)).trans hk
      have hia : I pre Wa := hI _ _ _ hi (.of_below hba)
      have hlta : w.heap.size + 1 < Wa.heap.size := Nat.lt_of_lt_of_le hlt hba.size
      refine ⟨_, run_beginRound hla (by rw [hrec]), ?_⟩
      obtain ⟨W2, hW2⟩ : ∃ W2, Wa.putObj (w.heap.size + 1) (.loop { rec .ready none with state := .busy }) = W2 := ⟨_, rfl⟩
      rw [hW2]
      have hl2 : W2.heap[w.heap.size + 1]? = some (.loop { rec .ready none with state := .busy }) := by rw [← hW2]; exact World.putObj_heap_same hlta
      have hk2 : W2.heap[w.heap.size]? = some (.deferred (some [])) := by rw [← hW2]; exact (World.putObj_heap_other (by omega)).trans hka
      have hc2 : ChT (fun b o => Sb b o ∨ b = w.heap.size + 1) W W2 := by rw [← hW2]; exact (ChT.of_below hba).putObj _ _ (fun _ _ => .inr rfl)
      have hi2 : I pre W2 := by rw [← hW2]; exact hI _ _ _ hia ((ChT.refl _ Wa).putObj _ _ (fun _ _ => .inr rfl))
      have hx2 : Ax x a' W2 := by rw [← hW2]; exact hAx _ _ _ _ hax
      refine wpIn_mono (hbody pre x a' W2 (by rw [← hW2]; simpa [World.putObj] using hlta) hi2 hx2 hpre) ?_
      have fin : ∀ (jump : Option Code) (W3 : World), ChT Sb W2 W3 →
          (Instr.endRound (w.heap.size + 1) jump).run P W3 = .ok (.bool jump.isNone) (W3.putObj (w.heap.size + 1) (.loop (rec (if jump.isNone then .ready else .done) jump))) ∧
          (W3.putObj (w.heap.size + 1) (.loop (rec (if jump.isNone then .ready else .done) jump))).heap[w.heap.size + 1]? = some (.loop (rec (if jump.isNone then .ready else .done) jump)) ∧
          (W3.putObj (w.heap.size + 1) (.loop (rec (if jump.isNone then .ready else .done) jump))).heap[w.heap.size]? = some (.deferred (some [])) := fun jump W3 hk3 => by
        have hl3 := hk3.heap hl2 (hSb' _)
        have := run_endRound (P := P) jump hl3
        rw [hrec] at this ⊢
        exact ⟨this, World.putObj_heap_same (Array.getElem?_eq_some_iff.1 hl3).1, (World.putObj_heap_other (by omega)).trans (hk3.heap hk2 hSb)⟩
      have back : ∀ (W3 : World) (o : Obj), ChT (fun b o => Si b o ∨ b = w.heap.size + 1) W3 (W3.putObj (w.heap.size + 1) o) := fun W3 o => (ChT.refl _ W3).putObj _ _ (fun _ _ => .inr rfl)
      rintro e a3 W3 hp
      cases e with
      | normal =>
        obtain ⟨hc3, hi3⟩ := hp
        obtain ⟨hr, hl4, hk4⟩ := fin none W3 hc3
        exact ⟨_, _, hr, .inl ⟨rfl, ⟨hI _ _ _ hi3 (back _ _), hl4, hk4⟩, (hc2.then_ hc3 (fun _ _ h => h) (fun _ _ h => .inl h)).putObj _ _ (fun _ _ => .inr rfl)⟩⟩
      | ret =>
        obtain ⟨hc3, hi3⟩ := hp
        obtain ⟨hr, hl4, hk4⟩ := fin (some .ret) W3 hc3
        exact ⟨_, _, hr, .inr ⟨rfl, .ret, hIx _ _ _ _ hi3 (back _ _), hl4, hk4⟩⟩
      | exit id =>
        obtain ⟨hc3, hi3⟩ := hp
        obtain ⟨hr, hl4, hk4⟩ := fin (some (.exit id)) W3 hc3
        exact ⟨_, _, hr, .inr ⟨rfl, .exit id, hIx _ _ _ _ hi3 (back _ _), hl4, hk4⟩⟩
      | goto t =>
        obtain ⟨hc3, hi3⟩ := hp
        obtain ⟨hr, hl4, hk4⟩ := fin (some (.goto t)) W3 hc3
        exact ⟨_, _, hr, .inr ⟨rfl, .goto t, hIx _ _ _ _ hi3 (back _ _), hl4, hk4⟩⟩
      | panic ch => exact hp.elim
      | outgrown => exact hp.elim
    · rintro e W2 ⟨⟨v, rfl⟩, (⟨hi, hl, hk⟩ | ⟨pre, hpre, c, hi, hl, hk⟩)⟩
      · exact ⟨none, _, by have := run_endLoop (P := P) hl (by rw [hrec]; simp); rw [hrec] at this; exact this, hdone _ (hI _ _ _ hi ((ChT.refl _ W2).putObj _ _ (fun _ _ => .inr rfl))) ((World.putObj_heap_other (by omega)).trans hk)⟩
      · exact ⟨some c, _, by have := run_endLoop (P := P) hl (by rw [hrec]; simp); rw [hrec] at this; exact this, hstop c pre _ hpre (hIx _ _ _ _ hi ((ChT.refl _ W2).putObj _ _ (fun _ _ => .inr rfl))) ((World.putObj_heap_other (by omega)).trans hk)⟩
end
end Go
namespace Go.Proofs.Ytkglggggmlnleaa.Print.Five
open Go.Proofs.Ytkglggggmlnleaa.Print
open Go.RowKit Go.Shelf Go.Proofs.YtkglggggmlnleaaW.PrintWords Go.Proofs.YtkglggggmlnleaaW.PrintLast Go.Proofs.YtkglggggmlnleaaW.PrintMore
set_option linter.unusedVariables false
set_option linter.unusedSimpArgs false
attribute [local go_sem] Oper.semAt_some

theorem not_row5_km {w : World} {km : Nat} (hk : ∀ g cs t fr, w.heap[g]? = some (.cells cs t fr) → ¬ g = km) (b : Nat) (o : Obj) (ho : w.heap[b]? = some o) (e : b = km) : ¬ Row5 o := by
  intro hr
  cases o with
  | cells cs t fr => exact hk b cs t fr ho e
  | _ => exact hr
/-- A list of numbers, padded with 0 to 14. -/
def pad (l : List Int) : List Int := l ++ List.replicate (14 - l.length) 0
/-- A history's cells. -/
def hcells (L st : Int) (A : Option Addr) (n c : Nat) (h : List (Int × Int)) : List Value :=
  [.int .i64 L, .int .i64 st, .slice A n c] ++ (pad (h.map (·.1))).map (.int .u8) ++ (pad (h.map (·.2))).map (.int .i64)
/-- A history as the iterator hands it over. -/
def hval (L st : Int) (A : Option Addr) (n c : Nat) (h : List (Int × Int)) : Value := .agg (hcells L st A n c h).toArray
def hencs (L st : Int) (A : Option Addr) (n c : Nat) (h : List (Int × Int)) : Array Value := #[hval L st A n c h]

/-- The variable h, the first runs of which are told. -/
def HBox (W : World) (bh : Nat) (L st : Int) (A : Option Addr) (n c : Nat) (p : List (Int × Int)) : Prop :=
  ∃ D V : List Int, W.heap[bh]? = some (.cells (([.int .i64 L, .int .i64 st, .slice A n c] : List Value) ++ D.map (Value.int .u8) ++ V.map (Value.int .i64)).toArray 88 (0, 0)) ∧
    D.length = 14 ∧ V.length = 14 ∧ D.take p.length = p.map (·.1) ∧ V.take p.length = p.map (·.2) ∧ D.drop n = List.replicate (14 - n) 0 ∧ V.drop n = List.replicate (14 - n) 0
theorem HBox.full {W : World} {bh : Nat} {L st : Int} {A : Option Addr} {n c : Nat} {p : List (Int × Int)} (h : HBox W bh L st A n c p) (hp : p.length = n) : W.heap[bh]? = some (.cells (hcells L st A n c p).toArray 88 (0, 0)) := by
  obtain ⟨D, V, h1, h2, h3, h4, h5, h6, h7⟩ := h
  have e1 : D = pad (p.map (·.1)) := by
    rw [← List.take_append_drop n D, h6, ← hp, h4]; simp [pad]
  have e2 : V = pad (p.map (·.2)) := by
    rw [← List.take_append_drop n V, h7, ← hp, h5]; simp [pad]
  rw [h1, e1, e2]; rfl

section
variable {P : Program} {ops : Array Oper} {Q : Exit → Act → World → Prop} {n : Nat} {F : Fence} {o : Oper} {rest : List Oper} {a : Act} {W : World}
theorem gateIn_dst {N : Tmp} (_hN : o.dst = some N) (h : wpListIn F n P ops Q (o :: rest) a W) : wpListIn F n P ops Q (o :: rest) a W := h
/-- An operation whose guard is off, inside a fence. -/
theorem skipIn_ (hF : ∀ f, F.fn f) (hw : Region.wanted o (yielded ops a.tmps) = false) (h : wpListIn F n P ops Q rest (a.put o.dst undef) W) : wpListIn F n P ops Q (o :: rest) a W :=
  wpListIn_step fun K hK => by
    rw [hw]
    exact ⟨fun _ _ => hF _, hK _ _ h⟩
/-- An operation that yields a value, inside a fence. -/
theorem evIn (hF : ∀ f, F.fn f) {v : Value} {w1 : World} (hgd : o.guard = none) (hnd : noDefer o.op = true) (hrun : (execOp a.eval o).run P W = .ok (.value v) w1) (h : wpListIn F n P ops Q rest (a.put o.dst v) w1) : wpListIn F n P ops Q (o :: rest) a W :=
  wpListIn_step fun K hK => by
    have hw : Region.wanted o (yielded ops a.tmps) = true := by simp [Region.wanted, hgd]
    rw [if_pos hw]
    refine ⟨fun _ _ => hF _, ?_⟩
    rw [Oper.semAt_eq _ _ _ (fun c e => by rw [e] at hnd; cases hnd), hrun]
    exact hK _ _ h
theorem load_rowIn (hF : ∀ f, F.fn f) (ty : TypeId) (x : Operand) (ho : o.op = .load ty x) (hgd : o.guard = none) (g : Nat) (hx : a.eval x = .pointer (some ⟨g, 0, none⟩)) (t : TypeId) (cs : Array Value) (fr : Nat × Nat) (d : TypeDesc) (hg : W.heap[g]? = some (.cells cs t fr))
    (hu : P.underlying ty = some d) (hd : (match d with | .struct _ | .array _ _ => true | _ => false) = true) (hi : (P.info? ty).map (·.size) = some cs.size)
    (h : wpListIn F n P ops Q rest (a.put o.dst (.agg cs)) W) : wpListIn F n P ops Q (o :: rest) a W :=
  evIn hF hgd (by rw [ho]; rfl) (by
    unfold execOp
    simp only [ho, hx, Instr.loadAt, Instr.sureAddr, Sem.run_bind, Sem.run_pure, Result.andThen_ok, run_loadVar_row W g t ty cs fr d hg hu hd hi]) h
end
section
variable {P : Program} {ops : Array Oper} {Q : Exit → Act → World → Prop}
/-- A call of a function value, inside a fence without a depth. -/
theorem callvIn {F : Fence} {n : Nat} (hF : ∀ f, F.fn f) (hdep : F.depth = none) {rest : List Oper} {oi : Oper} {N : Option Tmp} {a : Act} {w : World} {f : FuncId} {fn : Func} {first cap : Array Value} {t : Tmp} {os : Array Operand} {ts : Array TypeId} (hf : P.funcs[f]? = some fn) (hname : (fn.name == "runtime.NumGoroutine") = false) (hb : fn.body.isSome = true) (args : Array Value)
    (hw : Region.wanted oi (yielded ops a.tmps) = true) (hN : oi.dst = N) (hop : oi.op = .call { callee := .value (.tmp t), args := os, argTypes := ts }) (hv : a.eval (.tmp t) = .func (.func f) first cap) (hargs : first ++ os.map a.eval ++ cap = args)
    (h : CallsIn F (n - 1) P f args w fun e w' => ∃ v, e = .returned v ∧ wpListIn F n P ops Q rest (a.put N v) w') : wpListIn F n P ops Q (oi :: rest) a w :=
  wpListIn_step fun K hK => by
    rw [if_pos hw]
    refine ⟨fun _ _ => hF _, ?_⟩
    rw [Oper.semAt_eq _ _ _ (fun c e => by rw [hop] at e; cases e), runv hf hname hb args hop hv hargs]
    refine ⟨fun hd => (by rw [hdep] at hd; cases hd), h.mono fun e w'' hh => ?_⟩
    obtain ⟨v, rfl, hk⟩ := hh
    subst hN
    exact hK _ _ hk
/-- What follows in order: no panic, no leaving. -/
def onlyN (Q : Exit → Act → World → Prop) : Exit → Act → World → Prop
  | .normal, a, w => Q .normal a w
  | _, _, _ => False
theorem onlyN_mk {a : Act} {w : World} (h : Q .normal a w) : onlyN Q .normal a w := h
theorem onlyN_out : ¬ LetsOut (onlyN Q) := fun ⟨_, _, h⟩ => h
theorem onlyN_of {e : Exit} {a : Act} {w : World} (h : onlyN Q e a w) : Q e a w := by
  cases e <;> first | exact h | exact False.elim h
/-- A region that draws its order, inside the wide fence: the same steps as in a plain one. -/
theorem startIn_ {S : World → Prop} {ds : List Nat} {L : List Oper} {id n nn : Nat} {a : Act} {w : World} (l : Array Bool) (hm : P.follows .mixedOrders = true) (hn : L.toArray.size = n) (hl : Array.replicate n false = l) (hS : S w.drew)
    (hd : L.all (fun o => noDefer o.op) = true)
    (h : S w.drew → wpAnyLast P .any L.toArray (onlyN Q) S ds n l a w.drew) : (Code.region id L.toArray true).wpIn Fence.wide nn P Q a w := by
  subst hn
  subst hl
  exact Go.wpIn_mono (wpIn_of_any (ro := none) hm onlyN_out hd (wpAny_of_last _ _ _ _ (h hS))) fun _ _ _ => onlyN_of
end
theorem size88 : (Try.prog.info? 88).map (·.size) = some 31 := by kernel_rfl
theorem hcells_size {L st : Int} {A : Option Addr} {n c : Nat} {h : List (Int × Int)} (hh : h.length ≤ 14) : (hcells L st A n c h).toArray.size = 31 := by
  simp [hcells, pad]; omega
/-- What the search stands on: the iterator's memory, the variable h, yield, the search itself. -/
structure FSt (W : World) (bs bm bk bc km by_ bh bf lp : Nat) (L st : Int) (A : Option Addr) (c : Nat) (xs : List S67) (p : List (Int × Int)) : Prop where
  it : IterSt W bs bm bk bc km L st A c xs
  h : HBox W bh L st A xs.length c p
  y : W.heap[by_]? = some (.cells #[.func (.yield lp) #[] #[]] 120 (0, 0))
  f : W.heap[bf]? = some (.cells #[.func (.func 70) #[] #[.pointer (some ⟨bs, 0, none⟩), .pointer (some ⟨by_, 0, none⟩), .pointer (some ⟨bh, 0, none⟩), .pointer (some ⟨bm, 0, none⟩), .pointer (some ⟨bc, 0, none⟩), .pointer (some ⟨bf, 0, none⟩)]] 118 (0, 0))
/-- The caller's side of the iterator: what a round may change (Sb), what it keeps; what the caller holds (J, Jx). -/
structure Env0 (bs bm bk bc km lp n1 : Nat) (L st : Int) (A : Option Addr) (c : Nat) (xs : List S67) (H : List (List (Int × Int))) (Sb : Nat → Obj → Prop) (J Jx : List (List (Int × Int)) → World → Prop) : Prop where
  hJ : ∀ pre W W', J pre W → ChT (fun b o => (b = km ∨ n1 ≤ b) ∧ ¬ Row5 o) W W' → J pre W'
  hJx : ∀ pre W W', Jx pre W → ChT (fun b o => (b = km ∨ n1 ≤ b) ∧ ¬ Row5 o) W W' → Jx pre W'
  hb : ∀ b o, Sb b o → ¬ Row5 o → b < n1
  hA2 : ∀ ad, A = some ad → 0 < xs.length → ad.block < n1
  n1 : (∀ o, ¬ Row5 o → ¬ Sb bs o ∧ ¬ Sb bm o ∧ ¬ Sb bk o ∧ ¬ Sb bc o ∧ ¬ Sb km o) ∧ km < n1
  hA : ∀ ad, A = some ad → 0 < xs.length → ∀ o, ¬ Sb ad.block o
  hY : ∀ n pre x W1, J pre W1 → (pre ++ [x]) <+: H → YieldAt Fence.wide n Try.prog lp (hencs L st A xs.length c x) W1 fun e W' =>
      (e = .returned (.bool true) ∧ J (pre ++ [x]) W' ∧ ChT Sb W1 W') ∨ (e = .returned (.bool false) ∧ Jx (pre ++ [x]) W')
/-- What a round may change leaves the search's own memory. -/
theorem C67_block {w w1 : World} {A : Option Addr} {n : Nat} {xs : List S67} (h : Kd.C k67 w A n xs) (hc : ∀ ad, A = some ad → 0 < n → w1.heap[ad.block]? = w.heap[ad.block]?) : Kd.C k67 w1 A n xs := by
  obtain ⟨h1, h2, h3⟩ := h
  refine ⟨h1, h2, fun hn => ?_⟩
  obtain ⟨ad, e, hh⟩ := h3 hn
  refine ⟨ad, e, fun j p hj => ?_⟩
  obtain ⟨cs, hs, hr, hcell⟩ := hh j p hj
  refine ⟨cs, hs, ?_, fun i u hi => ?_⟩
  · have := k67_open hr
    rw [this]
    exact k67_mk w1 p
  · have := hcell i u hi
    rw [← this]
    refine World.cell?_of_block (w := w) ?_
    rw [add_block]
    exact hc ad e hn
where add_block {ad : Addr} {j : Nat} : (ad.add j).block = ad.block := by unfold Addr.add; split <;> rfl
section
variable {bs bm bk bc km by_ bh bf lp n1 : Nat} {L st : Int} {A : Option Addr} {c : Nat} {xs : List S67} {H : List (List (Int × Int))} {Sb : Nat → Obj → Prop} {J Jx : List (List (Int × Int)) → World → Prop} {p : List (Int × Int)} {W W' : World}
theorem FSt.kept (h : FSt W bs bm bk bc km by_ bh bf lp L st A c xs p) (E : Env0 bs bm bk bc km lp n1 L st A c xs H Sb J Jx) (hby : n1 ≤ by_) (hbh : n1 ≤ bh) (hbf : n1 ≤ bf) (hk : ChT Sb W W') : FSt W' bs bm bk bc km by_ bh bf lp L st A c xs p := by
  have hn : ∀ b o, n1 ≤ b → ¬ Row5 o → ¬ Sb b o := fun b o hb ho hs => by have := E.hb b o hs ho; omega
  have en := E.n1.1
  obtain ⟨es, cl, hm, _⟩ := h.it.memo
  refine ⟨⟨hk.heap h.it.s (en _ (by simp [Row5])).1, hk.heap h.it.may (en _ (by simp [Row5])).2.1, hk.heap h.it.kn (en _ (by simp [Row5])).2.2.1, hk.heap h.it.can (en _ (by simp [Row5])).2.2.2.1, h.it.memo.of_same ((hk.block _ _ hm (en _ (by simp [Row5])).2.2.2.2).trans hm.symm), ?_, h.it.cap⟩, ?_, hk.heap h.y (hn _ _ hby (by simp [Row5])), hk.heap h.f (hn _ _ hbf (by simp [Row5]))⟩
  · refine C67_block h.it.reads (fun ad e h0 => ?_)
    suffices hlt : ad.block < W.heap.size from (hk.block _ _ (Array.getElem?_eq_getElem hlt) (E.hA ad e h0 _)).trans (Array.getElem?_eq_getElem hlt).symm
    obtain ⟨_, _, h3⟩ := h.it.reads
    obtain ⟨ad', e', hh⟩ := h3 h0
    rw [e] at e'; cases e'
    obtain ⟨cs, hs, _, hcell⟩ := hh 0 _ (List.getElem?_eq_getElem h0)
    have h2 : 0 < cs.length := by rw [hs]; decide
    have := World.block_lt_of_cell? _ _ (hcell 0 _ (List.getElem?_eq_getElem h2))
    rwa [C67_block.add_block] at this
  · obtain ⟨D, V, h1, h2⟩ := h.h
    exact ⟨D, V, hk.heap h1 (hn _ _ hbh (by simp [Row5])), h2⟩
end
/-- The search, from a run at a level on. -/
def FurtherSaid (bs bm bk bc km by_ bh bf lp n1 : Nat) (L st : Int) (A : Option Addr) (c : Nat) (xs : List S67) (H : List (List (Int × Int))) (Sb : Nat → Obj → Prop) (J Jx : List (List (Int × Int)) → World → Prop) (k : Nat) : Prop :=
  ∀ (n : Nat) (l : Int) (p : List (Int × Int)) (pre : List (List (Int × Int))) (W : World), 0 ≤ l → l < L → p.length = k → n1 ≤ W.heap.size → FSt W bs bm bk bc km by_ bh bf lp L st A c xs p → J pre W →
    (pre ++ (hists L l (xs.drop k)).map (p ++ ·)) <+: H →
    CallsIn Fence.wide n Try.prog 70 #[.agg #[.int .i64 k, .int .i64 l], .pointer (some ⟨bs, 0, none⟩), .pointer (some ⟨by_, 0, none⟩), .pointer (some ⟨bh, 0, none⟩), .pointer (some ⟨bm, 0, none⟩), .pointer (some ⟨bc, 0, none⟩), .pointer (some ⟨bf, 0, none⟩)] W
      fun e W' => (e = .returned (.bool true) ∧ FSt W' bs bm bk bc km by_ bh bf lp L st A c xs p ∧ J (pre ++ (hists L l (xs.drop k)).map (p ++ ·)) W' ∧ ChT (fun b o => b = km ∨ b = bh ∨ Sb b o) W W') ∨
        (e = .returned (.bool false) ∧ ∃ pre', pre' <+: H ∧ Jx pre' W')

set_option maxHeartbeats 1000000 in
set_option maxRecDepth 100000 in
theorem further_end (bs bm bk bc km by_ bh bf lp n1 : Nat) (L st : Int) (A : Option Addr) (c : Nat) (xs : List S67) (H : List (List (Int × Int))) (Sb : Nat → Obj → Prop) (J Jx : List (List (Int × Int)) → World → Prop)
    (E : Env0 bs bm bk bc km lp n1 L st A c xs H Sb J Jx) (hx : xs.length ≤ 14) (hby : n1 ≤ by_) (hbh : n1 ≤ bh) (hbf : n1 ≤ bf) : FurtherSaid bs bm bk bc km by_ bh bf lp n1 L st A c xs H Sb J Jx xs.length := by
  intro n l p pre W h0 h1 hp hn1 hF hJ hH
  have hs : W.cell? ⟨bs, 2, none⟩ = some (.slice A xs.length c) := (blk_cell hF.it.s 2).trans rfl
  have hlt := blk_lt hF.it.s
  have hyc : W.cell? ⟨by_, 0, none⟩ = some (.func (.yield lp) #[] #[]) := (blk_cell hF.y 0).trans rfl
  have hlty := blk_lt hF.y
  have hu105 := Try.underlying105
  have hu34 := Try.underlying34
  have hb1 : ((xs.length : Int) == (xs.length : Int)) = true := beq_self_eq_true _
  have hb2 : (xs.length == xs.length) = true := beq_self_eq_true _
  have HF := Aside0.mk hF
  have HJ := Aside0.mk hJ
  have HH := Aside0.mk hH
  have HE := Aside0.mk E
  clear hF hJ hH E
  refine callsIn_of_wp Try.func70 rfl trivial ?_ rfl
  simp only [Try.ntmps70, List.size_toArray, List.length_cons, List.length_nil, Nat.reduceAdd, Nat.reduceSub, Array.replicate_succ, Array.replicate_zero, List.push_toArray, List.append_toArray, List.nil_append, List.cons_append]
  have hload := HF.out.h.full hp
  have HL := Aside0.mk hload
  clear hload
  obtain ⟨x, hxx⟩ : ∃ x, hval L st A xs.length c p = x := ⟨_, rfl⟩
  have HX := Aside0.mk hxx
  clear hxx
  have hpre : (pre ++ [p]) <+: H := by have := HH.out; rw [List.drop_length] at this; simpa [hists] using this
  obtain ⟨fn, tmps, asg, bdy, hy, hR⟩ := HE.out.hY (n - 1) pre p (W.alloc (.cells #[.int .i64 xs.length, .int .i64 l] 105)) (HE.out.hJ _ _ _ HJ.out ((ChT.refl _ W).alloc _)) hpre
  rw [hencs, HX.out] at hy
  gi_wp2_with ((refine gateIn_dst (N := 19) rfl ?_); refine load_rowIn (fun _ => trivial) 88 (.tmp 3) rfl rfl bh rfl 88 _ (0, 0) _ (blk_alloc HL.out _) Try.underlying88 rfl (by rw [size88, hcells_size (by omega)]) ?_; rw [show Value.agg (hcells L st A xs.length c p).toArray = x from HX.out])
  refine ⟨fun hd => by simp [Fence.wide] at hd, ?_⟩
  refine hR.mono ?_
  have hal : Below W.heap.size W (W.alloc (.cells #[.int .i64 xs.length, .int .i64 l] 105)) := (Below.refl _ W).alloc (Nat.le_refl _) _
  rintro e W' (⟨rfl, hJ', hk⟩ | ⟨rfl, hJx'⟩)
  · gi_wp2_with fail
    refine bodyPost_ret (results_tmp rfl _ _ _) rfl (.inl ⟨rfl, ?_, ?_, ?_⟩)
    · exact HF.out.kept HE.out hby hbh hbf ((ChT.of_below hal).trans hk)
    · rw [List.drop_length]; simpa [hists] using hJ'
    · exact (ChT.of_below hal).trans (hk.imp (fun _ _ h => .inr (.inr h)))
  · gi_wp2_with fail
    refine bodyPost_ret (results_tmp rfl _ _ _) rfl (.inr ⟨rfl, _, hpre, hJx'⟩)
end Go.Proofs.Ytkglggggmlnleaa.Print.Five
namespace Go.Proofs.Ytkglggggmlnleaa.Print.Five
open Go.Proofs.Ytkglggggmlnleaa.Print
open Go.RowKit Go.Shelf Go.Proofs.YtkglggggmlnleaaW.PrintWords Go.Proofs.YtkglggggmlnleaaW.PrintLast Go.Proofs.YtkglggggmlnleaaW.PrintMore
set_option linter.unusedVariables false
set_option linter.unusedSimpArgs false
attribute [local go_sem] Oper.semAt_some

/-- What the first results have yielded. -/
def part (L l : Int) (x : S67) (rest : List S67) (p : List (Int × Int)) (j : Nat) : List (List (Int × Int)) :=
  ((List.range j).flatMap fun (r : Nat) => if mayB x l (r : Int) then (hists L (nxt L l (r : Int)) rest).map fun h => p ++ ((r : Int), l) :: h else [])
theorem part_succ (L l : Int) (x : S67) (rest : List S67) (p : List (Int × Int)) (j : Nat) :
    part L l x rest p (j + 1) = part L l x rest p j ++ if mayB x l j then (hists L (nxt L l j) rest).map fun h => p ++ ((j : Int), l) :: h else [] := by
  simp [part, List.range_succ, List.flatMap_append]
theorem part_all {L l : Int} {xs : List S67} {k : Nat} {x : S67} (hx : xs[k]? = some x) (p : List (Int × Int)) : (hists L l (xs.drop k)).map (p ++ ·) = part L l x (xs.drop (k + 1)) p 3 := by
  obtain ⟨hk, rfl⟩ := List.getElem?_eq_some_iff.1 hx
  rw [List.drop_eq_getElem_cons hk]
  simp only [hists, part, List.map_flatMap]
  rw [show (List.range 3) = [0, 1, 2] from rfl]
  simp only [List.flatMap_cons, List.flatMap_nil, List.append_nil]
  congr 1
  · by_cases h : mayB xs[k] l 0 = true
    · simp [h, Function.comp_def]
    · simp [h]
  · congr 1
    · by_cases h : mayB xs[k] l 1 = true
      · simp [h, Function.comp_def]
      · simp [h]
    · by_cases h : mayB xs[k] l 2 = true
      · simp [h, Function.comp_def]
      · simp [h]
theorem part_le {L l : Int} {x : S67} {rest : List S67} {p : List (Int × Int)} : ∀ {j : Nat}, j ≤ 3 → part L l x rest p j <+: part L l x rest p 3 := fun {j} hj => by
  match j, hj with
  | 0, _ => simp [part]
  | 1, _ => rw [part_succ _ _ _ _ _ 2, part_succ _ _ _ _ _ 1, List.append_assoc]; exact List.prefix_append _ _
  | 2, _ => rw [part_succ _ _ _ _ _ 2]; exact List.prefix_append _ _
  | 3, _ => exact List.prefix_rfl
/-- What holds in a round of the search. -/
structure FurS (bs bm bk bc km by_ bh bf lp : Nat) (L st : Int) (A : Option Addr) (c : Nat) (xs : List S67) (Sb : Nat → Obj → Prop) (p : List (Int × Int)) (W : World) (k : Nat) (l : Int) (g : Nat) (w : World) : Prop where
  fs : FSt w bs bm bk bc km by_ bh bf lp L st A c xs p
  ch : ChT (fun b o => b = km ∨ b = bh ∨ Sb b o) W w
  box : w.heap[W.heap.size]? = some (.cells #[.int .i64 k, .int .i64 l] 105 (0, 0))
  mv : w.heap[g]? = some (.cells mvs 108 (0, 0))
section
variable {bs bm bk bc km by_ bh bf lp : Nat} {L st : Int} {A : Option Addr} {c : Nat} {xs : List S67} {Sb : Nat → Obj → Prop} {p : List (Int × Int)} {W : World} {k : Nat} {l : Int} {g : Nat} {w w' : World}
theorem FSt.below (h : FSt w bs bm bk bc km by_ bh bf lp L st A c xs p) (hb : Below w.heap.size w w') : FSt w' bs bm bk bc km by_ bh bf lp L st A c xs p :=
  ⟨h.it.same hb, by obtain ⟨D, V, h1, h2⟩ := h.h; exact ⟨D, V, blk_below h1 hb, h2⟩, blk_below h.y hb, blk_below h.f hb⟩
theorem FSt.changed (h : FSt w bs bm bk bc km by_ bh bf lp L st A c xs p) (hc : Ch (· = km) w w') (hm : MemoOK w' km L xs) : FSt w' bs bm bk bc km by_ bh bf lp L st A c xs p :=
  have hk := h.it.km_map
  ⟨h.it.kept hc hk hm, by obtain ⟨D, V, h1, h2⟩ := h.h; exact ⟨D, V, hc.heap h1 (hk _ _ _ _ h1), h2⟩, hc.heap h.y (hk _ _ _ _ h.y), hc.heap h.f (hk _ _ _ _ h.f)⟩
theorem FurS.below (h : FurS bs bm bk bc km by_ bh bf lp L st A c xs Sb p W k l g w) (hb : Below w.heap.size w w') : FurS bs bm bk bc km by_ bh bf lp L st A c xs Sb p W k l g w' :=
  ⟨h.fs.below hb, h.ch.trans (.of_below hb), blk_below h.box hb, blk_below h.mv hb⟩
theorem FurS.changed (h : FurS bs bm bk bc km by_ bh bf lp L st A c xs Sb p W k l g w) (hc : Ch (· = km) w w') (hm : MemoOK w' km L xs) : FurS bs bm bk bc km by_ bh bf lp L st A c xs Sb p W k l g w' :=
  have hk := h.fs.it.km_map
  ⟨h.fs.changed hc hm, h.ch.trans (.of_ch hc (fun _ _ _ h => .inl h)), hc.heap h.box (hk _ _ _ _ h.box), hc.heap h.mv (hk _ _ _ _ h.mv)⟩
end
def f70.T6 : Bool × List (List Nat × List Nat) := (true, [([], []), ([0], [0]), ([1], [1]), ([], []), ([3], [3]), ([], []), ([], []), ([6], [6]), ([4, 5, 7], [4, 5, 7]), ([2, 8], [2, 8]), ([], []), ([10, 9, 8, 0, 1, 2, 3, 4, 5, 6, 7, 8, 9, 10], [9, 10])])
def f70.B6 : List Nat := [0, 1, 3, 0, 8, 0, 0, 64, 248, 511, 0, 2047]
theorem f70.tab6 : rtab .any (opsOf Try.f70 6) = f70.T6 := by kernel_rfl
theorem f70.bits6 : waitsOk f70.T6.2 f70.B6 = true := by kernel_rfl
def f70.T8 : Bool × List (List Nat × List Nat) := (true, [([], []), ([0], [0]), ([], []), ([2], [2]), ([], []), ([4], [4]), ([], []), ([6], [6]), ([], []), ([8, 1, 0, 1, 4, 5], [1, 8]), ([9, 5, 0, 1, 4, 5], [5, 9]), ([], []), ([11, 3, 0, 1, 2, 3, 4, 5, 6, 7, 8, 9, 10], [3, 11]), ([12, 7, 10, 0, 1, 2, 3, 4, 5, 6, 7, 8, 9, 10], [7, 12])])
def f70.B8 : List Nat := [0, 1, 0, 4, 0, 16, 0, 64, 0, 307, 819, 0, 4095, 8191]
theorem f70.tab8 : rtab .any (opsOf Try.f70 8) = f70.T8 := by kernel_rfl
theorem f70.bits8 : waitsOk f70.T8.2 f70.B8 = true := by kernel_rfl

/-- The same with the move's variable and the next step's. -/
structure FurT (bs bm bk bc km by_ bh bf lp : Nat) (L st : Int) (A : Option Addr) (c : Nat) (xs : List S67) (Sb : Nat → Obj → Prop) (p : List (Int × Int)) (W : World) (k : Nat) (l : Int) (g gm jn : Nat) (w : World) : Prop where
  s : FurS bs bm bk bc km by_ bh bf lp L st A c xs Sb p W k l g w
  m : w.heap[gm]? = some (.cells #[.func (.func (77 + jn)) #[] #[]] 108 (0, 0))
section
variable {bs bm bk bc km by_ bh bf lp : Nat} {L st : Int} {A : Option Addr} {c : Nat} {xs : List S67} {Sb : Nat → Obj → Prop} {p : List (Int × Int)} {W : World} {k : Nat} {l : Int} {g gm jn gn : Nat} {w w' : World}
theorem FurT.fs (h : FurT bs bm bk bc km by_ bh bf lp L st A c xs Sb p W k l g gm jn w) : FSt w bs bm bk bc km by_ bh bf lp L st A c xs p := h.s.fs
theorem FurT.below (h : FurT bs bm bk bc km by_ bh bf lp L st A c xs Sb p W k l g gm jn w) (hb : Below w.heap.size w w') : FurT bs bm bk bc km by_ bh bf lp L st A c xs Sb p W k l g gm jn w' :=
  ⟨h.s.below hb, blk_below h.m hb⟩
theorem FurT.cells (h : FurT bs bm bk bc km by_ bh bf lp L st A c xs Sb p W k l g gm jn w) :
    w.cell? ⟨W.heap.size, 0, none⟩ = some (.int .i64 k) ∧ w.cell? ⟨W.heap.size, 1, none⟩ = some (.int .i64 l) ∧ w.cell? ⟨gm, 0, none⟩ = some (.func (.func (77 + jn)) #[] #[]) ∧
    w.cell? ⟨bs, 0, none⟩ = some (.int .i64 L) ∧ w.cell? ⟨bs, 1, none⟩ = some (.int .i64 st) ∧ w.cell? ⟨bs, 2, none⟩ = some (.slice A xs.length c) ∧ W.heap.size < w.heap.size :=
  ⟨(blk_cell h.s.box 0).trans rfl, (blk_cell h.s.box 1).trans rfl, (blk_cell h.m 0).trans rfl, (blk_cell h.fs.it.s 0).trans rfl, (blk_cell h.fs.it.s 1).trans rfl, (blk_cell h.fs.it.s 2).trans rfl, blk_lt h.s.box⟩
theorem FurS.at_ (h : FurS bs bm bk bc km by_ bh bf lp L st A c xs Sb p W k l g w) (hb : bh < W.heap.size) (hc : Ch (· = bh) w w') :
    w'.cell? ⟨W.heap.size, 0, none⟩ = some (.int .i64 k) ∧ w'.cell? ⟨W.heap.size, 1, none⟩ = some (.int .i64 l) :=
  have := hc.heap h.box (by omega : ¬ W.heap.size = bh)
  ⟨(blk_cell this 0).trans rfl, (blk_cell this 1).trans rfl⟩
end

/-- One more run written into h. -/
theorem hbox_arr (L st : Int) (A : Option Addr) (n c : Nat) (D V : List Int) (hD : D.length = 14) (hV : V.length = 14) (k : Nat) (hk : k < 14) (d v : Int) :
    (((([.int .i64 L, .int .i64 st, .slice A n c] : List Value) ++ D.map (Value.int .u8) ++ V.map (Value.int .i64)).toArray.setIfInBounds (3 + k) (.int .u8 d)).setIfInBounds (17 + k) (.int .i64 v)) =
      (([.int .i64 L, .int .i64 st, .slice A n c] : List Value) ++ (D.set k d).map (Value.int .u8) ++ (V.set k v).map (Value.int .i64)).toArray := by
  have e1 : (([.int .i64 L, .int .i64 st, .slice A n c] : List Value) ++ D.map (Value.int .u8) ++ V.map (Value.int .i64)).set (3 + k) (.int .u8 d) = ([.int .i64 L, .int .i64 st, .slice A n c] : List Value) ++ (D.set k d).map (Value.int .u8) ++ V.map (Value.int .i64) := by
    rw [List.set_append_left _ _ (by simp [hD]; try omega), List.set_append_right _ _ (by try simp), List.map_set]
    congr 3
    all_goals (try simp)
  have e2 : (([.int .i64 L, .int .i64 st, .slice A n c] : List Value) ++ (D.set k d).map (Value.int .u8) ++ V.map (Value.int .i64)).set (17 + k) (.int .i64 v) = ([.int .i64 L, .int .i64 st, .slice A n c] : List Value) ++ (D.set k d).map (Value.int .u8) ++ (V.set k v).map (Value.int .i64) := by
    rw [List.set_append_right _ _ (by simp [hD]; try omega), List.map_set]
    congr 2
    all_goals (try simp [hD]; try omega)
  simp only [List.setIfInBounds_toArray]
  rw [e1, e2]
def Row31 (w : World) (bh : Nat) : Prop := ∃ cs, w.heap[bh]? = some (.cells cs 88 (0, 0)) ∧ cs.size = 31
theorem Row31.cell {w : World} {bh : Nat} (h : Row31 w bh) (i : Nat) (hi : i < 31) : ∃ v, w.cell? ⟨bh, i, none⟩ = some v := by
  obtain ⟨cs, h1, h2⟩ := h
  exact ⟨_, (blk_cell h1 i).trans (Array.getElem?_eq_getElem (by omega))⟩
theorem Row31.frozen {w : World} {bh : Nat} (h : Row31 w bh) (i : Nat) : w.frozen? ⟨bh, i, none⟩ = false := by
  obtain ⟨cs, h1, h2⟩ := h
  exact blk_frozen h1 i
theorem HBox.row {w : World} {bh : Nat} {L st : Int} {A : Option Addr} {n c : Nat} {p : List (Int × Int)} (h : HBox w bh L st A n c p) : Row31 w bh := by
  obtain ⟨D, V, h1, h2, h3, _⟩ := h
  exact ⟨_, h1, by simp [h2, h3]⟩
theorem HBox.put {w : World} {bh : Nat} {L st : Int} {A : Option Addr} {n c : Nat} {p : List (Int × Int)} {k : Nat} (h : HBox w bh L st A n c p) (hp : p.length = k) (hn : k < n) (h14 : n ≤ 14) (d v : Int) :
    HBox ((w.setCell ⟨bh, 3 + k, none⟩ (.int .u8 d)).setCell ⟨bh, 17 + k, none⟩ (.int .i64 v)) bh L st A n c (p ++ [(d, v)]) := by
  obtain ⟨D, V, h1, h2, h3, h4, h5, h6, h7⟩ := h
  refine ⟨D.set k d, V.set k v, blk_put (blk_put h1 (3 + k) _ rfl) (17 + k) _ (hbox_arr L st A n c D V h2 h3 k (by omega) d v), by simp [h2], by simp [h3], ?_, ?_, ?_, ?_⟩
  · have : (D.set k d).take (k + 1) = D.take k ++ [d] := by
      rw [List.take_add_one, List.take_set_of_le (Nat.le_refl k), List.getElem?_set_self (by omega)]; rfl
    simp only [List.length_append, List.length_cons, List.length_nil, hp, List.map_append, List.map_cons, List.map_nil]
    rw [this, ← hp, h4]
  · have : (V.set k v).take (k + 1) = V.take k ++ [v] := by
      rw [List.take_add_one, List.take_set_of_le (Nat.le_refl k), List.getElem?_set_self (by omega)]; rfl
    simp only [List.length_append, List.length_cons, List.length_nil, hp, List.map_append, List.map_cons, List.map_nil]
    rw [this, ← hp, h5]
  · rw [List.drop_set_of_lt hn, h6]
  · rw [List.drop_set_of_lt hn, h7]
theorem HBox.pop {w : World} {bh : Nat} {L st : Int} {A : Option Addr} {n c : Nat} {p q : List (Int × Int)} (h : HBox w bh L st A n c (p ++ q)) : HBox w bh L st A n c p := by
  obtain ⟨D, V, h1, h2, h3, h4, h5, h6, h7⟩ := h
  refine ⟨D, V, h1, h2, h3, ?_, ?_, h6, h7⟩
  · have := congrArg (List.take p.length) h4
    simpa [List.take_take, Nat.min_eq_left (Nat.le_add_right _ _)] using this
  · have := congrArg (List.take p.length) h5
    simpa [List.take_take, Nat.min_eq_left (Nat.le_add_right _ _)] using this
section
variable {bs bm bk bc km by_ bh bf lp n1 : Nat} {L st : Int} {A : Option Addr} {c : Nat} {xs : List S67} {H : List (List (Int × Int))} {Sb : Nat → Obj → Prop} {J Jx : List (List (Int × Int)) → World → Prop} {p q : List (Int × Int)} {W : World} {k : Nat} {l : Int} {g gm jn : Nat} {w w' : World}
theorem FSt.pop (h : FSt w bs bm bk bc km by_ bh bf lp L st A c xs (p ++ q)) : FSt w bs bm bk bc km by_ bh bf lp L st A c xs p := ⟨h.it, h.h.pop, h.y, h.f⟩
theorem FSt.wrote (h : FSt w bs bm bk bc km by_ bh bf lp L st A c xs p) (E : Env0 bs bm bk bc km lp n1 L st A c xs H Sb J Jx) (hbh : n1 ≤ bh) (hd : bh ≠ by_ ∧ bh ≠ bf) (hc : Ch (· = bh) w w') (hbox : HBox w' bh L st A xs.length c q) :
    FSt w' bs bm bk bc km by_ bh bf lp L st A c xs q := by
  obtain ⟨D, V, hb, _⟩ := h.h
  obtain ⟨es, cl, hm, _⟩ := h.it.memo
  have e5 : ¬ km = bh := fun e => by subst e; rw [hb] at hm; cases hm
  refine ⟨⟨hc.heap h.it.s (blk_ne h.it.s hb (by decide)), hc.heap h.it.may (blk_ne h.it.may hb (by decide)), hc.heap h.it.kn (blk_ne h.it.kn hb (by decide)), hc.heap h.it.can (blk_ne h.it.can hb (by decide)), h.it.memo.of_same (hc.block _ (Array.getElem?_eq_some_iff.1 hm).1 e5), ?_, h.it.cap⟩, hbox, hc.heap h.y (Ne.symm hd.1), hc.heap h.f (Ne.symm hd.2)⟩
  refine C67_block h.it.reads (fun ad e h0 => ?_)
  refine hc.block _ ?_ (fun e2 => ?_)
  · obtain ⟨_, _, h3⟩ := h.it.reads
    obtain ⟨ad', e', hh⟩ := h3 h0
    rw [e] at e'; cases e'
    obtain ⟨cs, hs, _, hcell⟩ := hh 0 _ (List.getElem?_eq_getElem h0)
    have h2 : 0 < cs.length := by rw [hs]; decide
    have := World.block_lt_of_cell? _ _ (hcell 0 _ (List.getElem?_eq_getElem h2))
    rwa [C67_block.add_block] at this
  · have := E.hA2 ad e h0
    omega
theorem FurT.cells2 (h : FurT bs bm bk bc km by_ bh bf lp L st A c xs Sb p W k l g gm jn w) :
    w.cell? ⟨bm, 0, none⟩ = some (.func (.func 60) #[.agg #[.int .i64 L, .int .i64 st, .slice A xs.length c]] #[]) ∧
    w.cell? ⟨bc, 0, none⟩ = some (.func (.func 68) #[] #[.pointer (some ⟨bs, 0, none⟩), .pointer (some ⟨bk, 0, none⟩), .pointer (some ⟨bm, 0, none⟩), .pointer (some ⟨bc, 0, none⟩)]) ∧
    w.cell? ⟨W.heap.size, 0, none⟩ = some (.int .i64 k) ∧ w.cell? ⟨W.heap.size, 1, none⟩ = some (.int .i64 l) ∧ bm < w.heap.size ∧ bc < w.heap.size ∧ W.heap.size < w.heap.size :=
  ⟨(blk_cell h.fs.it.may 0).trans rfl, (blk_cell h.fs.it.can 0).trans rfl, (blk_cell h.s.box 0).trans rfl, (blk_cell h.s.box 1).trans rfl, blk_lt h.fs.it.may, blk_lt h.fs.it.can, blk_lt h.s.box⟩
theorem FurT.changed (h : FurT bs bm bk bc km by_ bh bf lp L st A c xs Sb p W k l g gm jn w) (hc : Ch (· = km) w w') (hm : MemoOK w' km L xs) : FurT bs bm bk bc km by_ bh bf lp L st A c xs Sb p W k l g gm jn w' :=
  ⟨h.s.changed hc hm, hc.heap h.m (h.fs.it.km_map _ _ _ _ h.m)⟩
theorem fur_split {e : Ending} {X Y : Prop} (h : (e = .returned (.bool true) ∧ X) ∨ (e = .returned (.bool false) ∧ Y)) : ∃ b : Bool, e = .returned (.bool b) ∧ ((b = true ∧ X) ∨ (b = false ∧ Y)) := by
  rcases h with ⟨rfl, h⟩ | ⟨rfl, h⟩
  · exact ⟨true, rfl, .inl ⟨rfl, h⟩⟩
  · exact ⟨false, rfl, .inr ⟨rfl, h⟩⟩
/-- Behind the round of a result that goes on. -/
theorem FurS.round {w8 w9 : World} (h : FurS bs bm bk bc km by_ bh bf lp L st A c xs Sb p W k l g w) (E : Env0 bs bm bk bc km lp n1 L st A c xs H Sb J Jx) (hn1 : n1 ≤ W.heap.size) (hb : bh < W.heap.size) (hg : W.heap.size < g)
    (h8 : Ch (· = bh) w w8) (h9 : ChT (fun b o => b = km ∨ b = bh ∨ Sb b o) w8 w9) (hf : FSt w9 bs bm bk bc km by_ bh bf lp L st A c xs p) : FurS bs bm bk bc km by_ bh bf lp L st A c xs Sb p W k l g w9 := by
  have hw : ChT (fun b o => b = km ∨ b = bh ∨ Sb b o) w w9 := (ChT.of_ch h8 (fun _ _ _ e => .inr (.inl e))).trans h9
  have hkm := E.n1.2
  have hS := E.hb
  refine ⟨hf, h.ch.trans hw, hw.heap h.box ?_, hw.heap h.mv ?_⟩
  · rintro (e | e | e)
    · omega
    · omega
    · have := hS _ _ e (by simp [Row5]); omega
  · rintro (e | e | e)
    · omega
    · omega
    · have := hS _ _ e (by simp [Row5]); omega
end

set_option maxHeartbeats 2000000 in
set_option maxRecDepth 100000 in
theorem further_step (bs bm bk bc km by_ bh bf lp n1 : Nat) (L st : Int) (A : Option Addr) (c : Nat) (xs : List S67) (H : List (List (Int × Int))) (Sb : Nat → Obj → Prop) (J Jx : List (List (Int × Int)) → World → Prop)
    (E : Env0 bs bm bk bc km lp n1 L st A c xs H Sb J Jx) (hL1 : 1 ≤ L) (hL : L ≤ 8) (hx : xs.length ≤ 14) (hby : n1 ≤ by_) (hbh : n1 ≤ bh) (hbf : n1 ≤ bf) (hd : bh ≠ by_ ∧ bh ≠ bf) (k : Nat) (hk : k < xs.length)
    (ih : Aside0 (FurtherSaid bs bm bk bc km by_ bh bf lp n1 L st A c xs H Sb J Jx (k + 1))) : FurtherSaid bs bm bk bc km by_ bh bf lp n1 L st A c xs H Sb J Jx k := by
  intro n l p pre W h0 h1 hp hn1 hF hJ hH
  have hs : W.cell? ⟨bs, 2, none⟩ = some (.slice A xs.length c) := (blk_cell hF.it.s 2).trans rfl
  have hlt := blk_lt hF.it.s
  have hu105 := Try.underlying105
  have hu34 := Try.underlying34
  have hkn1 : ((k : Int) == (xs.length : Int)) = false := beq_eq_false_iff_ne.2 (by omega)
  have hkn2 : (k == xs.length) = false := beq_eq_false_iff_ne.2 (by omega)
  obtain ⟨x, hxk⟩ : ∃ x, xs[k]? = some x := ⟨_, List.getElem?_eq_getElem hk⟩
  rw [part_all hxk] at hH
  have HF := Aside0.mk hF
  have HJ := Aside0.mk hJ
  have HH := Aside0.mk hH
  have HE := Aside0.mk E
  have HXK := Aside0.mk hxk
  clear hF hJ hH E hxk
  refine callsIn_of_wp Try.func70 rfl trivial ?_ rfl
  simp only [Try.ntmps70, List.size_toArray, List.length_cons, List.length_nil, Nat.reduceAdd, Nat.reduceSub, Array.replicate_succ, Array.replicate_zero, List.push_toArray, List.append_toArray, List.nil_append, List.cons_append]
  gi_wp2_with fail
  refine ⟨trivial, fun hd => (by simp [Fence.wide] at hd), ?_⟩
  refine (callsIn_wide.2 (moves_calls _)).mono ?_
  rintro e w1 ⟨g, rfl, hg, hmv, hbel⟩
  gi_wp2_with fail
  have hBa : w1.heap[W.heap.size]? = some (.cells #[.int .i64 k, .int .i64 l] 105 (0, 0)) := blk_below (blk_new W _) hbel
  have hal : Below W.heap.size W (W.alloc (.cells #[.int .i64 k, .int .i64 l] 105 (0, 0))) := (Below.refl _ W).alloc (Nat.le_refl _) _
  have HS := Aside0.mk (FurS.mk (Sb := Sb) (W := W) (g := g) ((HF.out.below hal).below hbel) ((ChT.of_below hal).trans (.of_below hbel)) hBa hmv)
  have HJ1 := Aside0.mk (HE.out.hJ _ _ _ HJ.out ((ChT.of_below hal).trans (.of_below hbel)))
  have hgW : W.heap.size ≠ g := by simp at hg; omega
  clear hBa hmv hs hbel HJ hal
  gi_loopw [23] (fun j wr => ∃ jn : Nat, jn ≤ 3 ∧ j = .int .i64 jn ∧ Aside0 (FurS bs bm bk bc km by_ bh bf lp L st A c xs Sb p W k l g wr) ∧ Aside0 (J (pre ++ part L l x (xs.drop (k + 1)) p jn) wr)) (fun j _ => 3 - (intOf j).toNat)
  case atStart => exact ⟨0, by omega, rfl, HS, ⟨by simpa [part] using HJ1.out⟩⟩
  case round =>
    obtain ⟨jn, hj, rfl, hS, hJ⟩ := hrel
    clear HS HJ1
    by_cases hj3 : jn < 3
    · have hmv : wr.cell? ⟨g, jn, none⟩ = some (.func (.func (77 + jn)) #[] #[]) := by
        refine (blk_cell hS.out.mv jn).trans ?_
        match jn, hj3 with
        | 0, _ => rfl
        | 1, _ => rfl
        | 2, _ => rfl
      have hgl := blk_lt hS.out.mv
      have hj4 : (jn : Int) < 3 := by omega
      have hj5 : (0 : Int) ≤ (jn : Int) := by omega
      have hj6 : decide ((jn : Int) < 3) = true := decide_eq_true hj4
      gi_wp2_with fail
      have HT1 : Aside0 (FurT bs bm bk bc km by_ bh bf lp L st A c xs Sb p W k l g wr.heap.size jn (wr.alloc (.cells #[.func (.func (77 + jn)) #[] #[]] 108 (0, 0)))) :=
        ⟨⟨hS.out.below ((Below.refl _ _).alloc (Nat.le_refl _) _), blk_new wr _⟩⟩
      have HJ1 := Aside0.mk (HE.out.hJ _ _ _ hJ.out (ChT.of_below ((Below.refl _ _).alloc (Nat.le_refl _) (.cells #[.func (.func (77 + jn)) #[] #[]] 108 (0, 0)))))
      clear hS hJ hmv hgl
      generalize wr.heap.size = gm at HT1 HJ1 ⊢
      generalize wr.alloc (.cells #[.func (.func (77 + jn)) #[] #[]] 108 (0, 0)) = w1 at HT1 HJ1 ⊢
      have hw8 : IntKind.u8.wrap (jn : Int) = jn := by
        have : IntKind.u8.wrap (jn : Int) = (jn : Int) % 256 := by simp [IntKind.wrap, IntKind.bits, IntKind.signed]
        omega
      have hwk : wrap64 ((k : Int) + 1) = (k : Int) + 1 := by unfold wrap64; omega
      have Hwk := Aside0.mk hwk
      clear hwk
      have hnx := nxt_range (L := L) (l := l) (r := jn) h0 h1
      refine startIn_ (n := 12) (S := (Below w1.heap.size w1)) (ds := []) #[false, false, false, false, false, false, false, false, false, false, false, false] (by kernel_rfl) rfl rfl ((Below.refl _ _).drew) rfl (fun hHeld => ?_)
      refine with_tabW f70.tab6 f70.bits6 (fun HT_ HW_ => ?_)
      refine take_ (i := 0) (N := some 28) (v := ?_) (a' := ?_) #[true, false, false, false, false, false, false, false, false, false, false, false] rfl rfl (take_ofW HT_.out HW_.out (by kernel_rfl)) (fun _ _ _ h => h) (Or.inl ⟨by rfl, ?_⟩) hHeld ?_ ?_
      rotate_left
      · rintro w' hS
        obtain ⟨s0, s1, s2, s3, s4, s5, s6⟩ := (HT1.out.below hS).cells
        clear hS
        go_simp
        with_reducible rfl
      rotate_left
      · simp only [Act.put, List.setIfInBounds_toArray, List.set_cons_zero, List.set_cons_succ, i64_w, i32_w]
        rfl
      refine take_ (i := 1) (N := some 29) (v := ?_) (a' := ?_) #[true, true, false, false, false, false, false, false, false, false, false, false] rfl rfl (take_ofW HT_.out HW_.out (by kernel_rfl)) (fun _ _ _ h => h) (Or.inl ⟨by rfl, ?_⟩) hHeld ?_ ?_
      rotate_left
      · rintro w' hS
        obtain ⟨s0, s1, s2, s3, s4, s5, s6⟩ := (HT1.out.below hS).cells
        clear hS
        go_simp
        with_reducible rfl
      rotate_left
      · simp only [Act.put, List.setIfInBounds_toArray, List.set_cons_zero, List.set_cons_succ, i64_w, i32_w]
        rfl
      refine take_ (i := 2) (N := some 30) (v := ?_) (a' := ?_) #[true, true, true, false, false, false, false, false, false, false, false, false] rfl rfl (take_ofW HT_.out HW_.out (by kernel_rfl)) (fun _ _ _ h => h) (Or.inl ⟨by rfl, ?_⟩) hHeld ?_ ?_
      rotate_left
      · rintro w' hS
        obtain ⟨s0, s1, s2, s3, s4, s5, s6⟩ := (HT1.out.below hS).cells
        clear hS
        go_simp
        with_reducible rfl
      rotate_left
      · simp only [Act.put, List.setIfInBounds_toArray, List.set_cons_zero, List.set_cons_succ, i64_w, i32_w]
        rfl
      refine take_ (i := 3) (N := some 31) (v := ?_) (a' := ?_) #[true, true, true, true, false, false, false, false, false, false, false, false] rfl rfl (take_ofW HT_.out HW_.out (by kernel_rfl)) (fun _ _ _ h => h) (Or.inl ⟨by rfl, ?_⟩) hHeld ?_ ?_
      rotate_left
      · rintro w' hS
        obtain ⟨s0, s1, s2, s3, s4, s5, s6⟩ := (HT1.out.below hS).cells
        clear hS
        go_simp
        with_reducible rfl
      rotate_left
      · simp only [Act.put, List.setIfInBounds_toArray, List.set_cons_zero, List.set_cons_succ, i64_w, i32_w]
        rfl
      refine take_ (i := 4) (N := some 32) (v := ?_) (a' := ?_) #[true, true, true, true, true, false, false, false, false, false, false, false] rfl rfl (take_ofW HT_.out HW_.out (by kernel_rfl)) (fun _ _ _ h => h) (Or.inl ⟨by rfl, ?_⟩) hHeld ?_ ?_
      rotate_left
      · rintro w' hS
        obtain ⟨s0, s1, s2, s3, s4, s5, s6⟩ := (HT1.out.below hS).cells
        clear hS
        go_simp
        with_reducible rfl
      rotate_left
      · simp only [Act.put, List.setIfInBounds_toArray, List.set_cons_zero, List.set_cons_succ, i64_w, i32_w]
        rfl
      refine take_ (i := 5) (N := some 33) (v := ?_) (a' := ?_) #[true, true, true, true, true, true, false, false, false, false, false, false] rfl rfl (take_ofW HT_.out HW_.out (by kernel_rfl)) (fun _ _ _ h => h) (Or.inl ⟨by rfl, ?_⟩) hHeld ?_ ?_
      rotate_left
      · rintro w' hS
        obtain ⟨s0, s1, s2, s3, s4, s5, s6⟩ := (HT1.out.below hS).cells
        clear hS
        go_simp
        with_reducible rfl
      rotate_left
      · simp only [Act.put, List.setIfInBounds_toArray, List.set_cons_zero, List.set_cons_succ, i64_w, i32_w]
        rfl
      refine take_ (i := 6) (N := some 34) (v := ?_) (a' := ?_) #[true, true, true, true, true, true, true, false, false, false, false, false] rfl rfl (take_ofW HT_.out HW_.out (by kernel_rfl)) (fun _ _ _ h => h) (Or.inl ⟨by rfl, ?_⟩) hHeld ?_ ?_
      rotate_left
      · rintro w' hS
        obtain ⟨s0, s1, s2, s3, s4, s5, s6⟩ := (HT1.out.below hS).cells
        clear hS
        go_simp
        with_reducible rfl
      rotate_left
      · simp only [Act.put, List.setIfInBounds_toArray, List.set_cons_zero, List.set_cons_succ, i64_w, i32_w]
        rfl
      refine take_ (i := 7) (N := some 35) (v := ?_) (a' := ?_) #[true, true, true, true, true, true, true, true, false, false, false, false] rfl rfl (take_ofW HT_.out HW_.out (by kernel_rfl)) (fun _ _ _ h => h) (Or.inl ⟨by rfl, ?_⟩) hHeld ?_ ?_
      rotate_left
      · rintro w' hS
        obtain ⟨s0, s1, s2, s3, s4, s5, s6⟩ := (HT1.out.below hS).cells
        clear hS
        go_simp
        with_reducible rfl
      rotate_left
      · simp only [Act.put, List.setIfInBounds_toArray, List.set_cons_zero, List.set_cons_succ, i64_w, i32_w]
        rfl
      refine join_ (σ := Nat) 1 #[true, true, true, true, true, true, true, true, true, true, true, false] (fun s_ => [(36, .int .i64 (nxt L l jn)), (37, .agg #[.int .i64 (wrap64 ((k : Int) + 1)), .int .i64 (nxt L l jn)]), (11, .pointer (some ⟨s_, 0, none⟩))]) (fun s_ w' => Below w1.heap.size w1 w' ∧ w1.heap.size ≤ s_ ∧ w'.heap[s_]? = some (.cells #[.int .i64 0, .int .i64 0] 105 (0, 0))) ?_ ?_
      rotate_left
      · intro hCont
        refine two_ (i := 8) (j := 10) (Ni := some 36) (Nj := some 11) #[true, true, true, true, true, true, true, true, true, false, false, false] #[true, true, true, true, true, true, true, true, false, false, true, false] rfl rfl rfl rfl (two_of HT_.out (by kernel_rfl)) (by decide) (by decide) (fun K hK => ?_) (fun K hK => ?_)
        · refine callv_ (t := 32) (fn := _) (hf77 jn hj3) (hn77 jn hj3) (hb77 jn hj3) #[.agg #[.int .i64 L, .int .i64 st, .slice A xs.length c], .int .i64 l] (by rfl) rfl rfl rfl (by simp [Act.eval]) ?_
          refine (to_calls jn hj3 L st A c xs l _ (HT1.out.below hHeld).fs.it.reads (HT1.out.below hHeld).fs.it.cap hL hL1 h0 h1).mono ?_
          rintro e w3 ⟨rfl, hb3⟩
          refine ⟨_, rfl, hK.out _ _ (hHeld.trans (hb3.mono hHeld.size)) ?_⟩
          clear hHeld hb3
          intro hHeld
          clear hK K
          refine norm_ (a' := ?_) ?_ ?_
          rotate_left
          · show Act.put _ (some 36) _ = _
            simp only [Act.put, List.setIfInBounds_toArray, List.set_cons_zero, List.set_cons_succ, i64_w, i32_w]
            rfl
          refine take_ (i := 9) (N := some 37) (v := ?_) (a' := ?_) #[true, true, true, true, true, true, true, true, true, true, false, false] rfl rfl (take_ofW HT_.out HW_.out (by kernel_rfl)) (fun _ _ _ h => h) (Or.inl ⟨by rfl, ?_⟩) hHeld ?_ ?_
          rotate_left
          · rintro w' hS
            obtain ⟨s0, s1, s2, s3, s4, s5, s6⟩ := (HT1.out.below hS).cells
            clear hS
            go_simp
            with_reducible rfl
          rotate_left
          · simp only [Act.put, List.setIfInBounds_toArray, List.set_cons_zero, List.set_cons_succ, i64_w, i32_w]
            rfl
          refine one_ (i := 10) (N := some 11) #[true, true, true, true, true, true, true, true, true, true, true, false] rfl rfl (one_of HT_.out (by kernel_rfl)) (by decide) (fun K hK => ?_)
          refine box_step ?hg (N := 11) ?hd (cs := #[.int .i64 0, .int .i64 0]) (t := 105) ?hr ?_; (case hd => rfl); (case hg => rfl); (case hr => first | (go_simp; done) | (go_simp; rfl))
          intro gn hgn w26 hbox hb
          have HGN := Aside0.mk (by rw [hgn]; exact hHeld.size : w1.heap.size ≤ gn)
          have HBX := Aside0.mk hbox
          refine hK.out _ _ (hHeld.trans (hb.mono hHeld.size)) ?_
          clear hHeld hb hbox hgn
          intro hHeld
          clear hK K
          refine norm_ (a' := ?_) ?_ ?_
          rotate_left
          · show Act.put _ (some 11) _ = _
            simp only [Act.put, List.setIfInBounds_toArray, List.set_cons_zero, List.set_cons_succ, i64_w, i32_w]
            rfl
          exact norm_ (by simp only [putAll, Act.put, List.setIfInBounds_toArray, List.set_cons_zero, List.set_cons_succ]) (hCont gn _ ⟨hHeld, HGN.out, HBX.out⟩)
        · refine box_step ?hg (N := 11) ?hd (cs := #[.int .i64 0, .int .i64 0]) (t := 105) ?hr ?_; (case hd => rfl); (case hg => rfl); (case hr => first | (go_simp; done) | (go_simp; rfl))
          intro gn hgn w26 hbox hb
          have HGN := Aside0.mk (by rw [hgn]; exact hHeld.size : w1.heap.size ≤ gn)
          have HBX := Aside0.mk hbox
          refine hK.out _ _ (hHeld.trans (hb.mono hHeld.size)) ?_
          clear hHeld hb hbox hgn
          intro hHeld
          clear hK K
          refine norm_ (a' := ?_) ?_ ?_
          rotate_left
          · show Act.put _ (some 11) _ = _
            simp only [Act.put, List.setIfInBounds_toArray, List.set_cons_zero, List.set_cons_succ, i64_w, i32_w]
            rfl
          refine one_ (i := 8) (N := some 36) #[true, true, true, true, true, true, true, true, true, false, true, false] rfl rfl (one_of HT_.out (by kernel_rfl)) (by decide) (fun K hK => ?_)
          refine callv_ (t := 32) (fn := _) (hf77 jn hj3) (hn77 jn hj3) (hb77 jn hj3) #[.agg #[.int .i64 L, .int .i64 st, .slice A xs.length c], .int .i64 l] (by rfl) rfl rfl rfl (by simp [Act.eval]) ?_
          refine (to_calls jn hj3 L st A c xs l _ (HT1.out.below hHeld).fs.it.reads (HT1.out.below hHeld).fs.it.cap hL hL1 h0 h1).mono ?_
          rintro e w3 ⟨rfl, hb3⟩
          replace HBX := Aside0.mk (blk_below HBX.out hb3)
          refine ⟨_, rfl, hK.out _ _ (hHeld.trans (hb3.mono hHeld.size)) ?_⟩
          clear hHeld hb3
          intro hHeld
          clear hK K
          refine norm_ (a' := ?_) ?_ ?_
          rotate_left
          · show Act.put _ (some 36) _ = _
            simp only [Act.put, List.setIfInBounds_toArray, List.set_cons_zero, List.set_cons_succ, i64_w, i32_w]
            rfl
          refine take_ (i := 9) (N := some 37) (v := ?_) (a' := ?_) #[true, true, true, true, true, true, true, true, true, true, true, false] rfl rfl (take_ofW HT_.out HW_.out (by kernel_rfl)) (fun _ _ _ h => h) (Or.inl ⟨by rfl, ?_⟩) hHeld ?_ ?_
          rotate_left
          · rintro w' hS
            obtain ⟨s0, s1, s2, s3, s4, s5, s6⟩ := (HT1.out.below hS).cells
            clear hS
            go_simp
            with_reducible rfl
          rotate_left
          · simp only [Act.put, List.setIfInBounds_toArray, List.set_cons_zero, List.set_cons_succ, i64_w, i32_w]
            rfl
          exact norm_ (by simp only [putAll, Act.put, List.setIfInBounds_toArray, List.set_cons_zero, List.set_cons_succ]) (hCont gn _ ⟨hHeld, HGN.out, HBX.out⟩)
      rintro gn w2 ⟨hHeld, hgn, hbx⟩
      have HBX := Aside0.mk hbx
      have HGN := Aside0.mk hgn
      clear hbx hgn
      refine norm_ (a' := ?_) ?_ ?_
      rotate_left
      · simp only [putAll, Act.put, List.setIfInBounds_toArray, List.set_cons_zero, List.set_cons_succ]
        rfl
      refine one_ (i := 11) (N := none) #[true, true, true, true, true, true, true, true, true, true, true, true] rfl rfl (one_of HT_.out (by kernel_rfl)) (by decide) (fun K hK => ?_)
      have hs28 : w2.cell? ⟨gn, 0, none⟩ = some (.int .i64 0) := (blk_cell HBX.out 0).trans rfl
      have hfs28 := blk_frozen HBX.out 0
      have hs29 : w2.cell? ⟨gn, 1, none⟩ = some (.int .i64 0) := (blk_cell HBX.out 1).trans rfl
      have hfs29 := blk_frozen HBX.out 1
      refine skip_ (w1 := ?_) (by rfl) rfl ?_ ?_
      rotate_left
      · go_simp
        rfl
      have hbx2 := blk_put (cs := #[.int .i64 (wrap64 ((k : Int) + 1)), .int .i64 0]) (blk_put (cs := #[.int .i64 0, .int .i64 0]) HBX.out 0 (.int .i64 (wrap64 ((k : Int) + 1))) rfl) 1 (.int .i64 (nxt L l jn)) rfl
      refine hK.out _ _ (below_set (below_set hHeld HGN.out) HGN.out) ?_
      clear hHeld HBX
      intro hHeld
      clear hK K
      refine done_ (done_of HT_.out (by kernel_rfl)) ?_
      refine onlyN_mk ?_
      have HT := Aside0.mk (HT1.out.below hHeld)
      have HB := Aside0.mk hbx2
      have HJ := Aside0.mk (HE.out.hJ _ _ _ HJ1.out (ChT.of_below hHeld))
      clear HT1 HJ1 hHeld hbx2 HGN
      generalize ((w2.setCell _ _).setCell _ _) = w3 at HT HB HJ ⊢
      clear hs28 hfs28 hs29 hfs29
      obtain ⟨c1, c2, c3, c4, c5, c6, c7⟩ := HT.out.cells2
      obtain ⟨mb, hmb⟩ : ∃ b, mayB x l jn = b := ⟨_, rfl⟩
      have Hmay := Aside0.mk hmb
      clear hmb
      cases mb with
      | false =>
        gi_wp2_with (first | (refine gateIn_dst (N := 42) rfl ?_; refine callvIn (fun _ => trivial) rfl Try.func60 (by kernel_rfl) rfl #[.agg #[.int .i64 L, .int .i64 st, .slice A xs.length c], .agg #[.int .i64 k, .int .i64 l], .int .u8 jn] (by rfl) rfl rfl rfl (by simp [Act.eval, hw8]) ?_; refine (callsIn_wide.2 (may_calls L st A c xs k x l jn _ HT.out.fs.it.reads HT.out.fs.it.cap HXK.out)).mono ?_; rintro e w4 ⟨rfl, hb4⟩; have HT4 := Aside0.mk (HT.out.below hb4); have HB4 := Aside0.mk (blk_below HB.out hb4); have HJ4 := Aside0.mk (HE.out.hJ _ _ _ HJ.out (ChT.of_below hb4)); clear hb4 HT HB HJ; rw [Hmay.out]; obtain ⟨d1, d2, d3, d4, d5, d6, d7⟩ := HT4.out.cells2; have e1 := (blk_cell HB4.out 0).trans rfl; have e2 := (blk_cell HB4.out 1).trans rfl; have e3 := blk_lt HB4.out; refine ⟨_, rfl, ?_⟩) | (refine gateIn_dst (N := 45) rfl ?_; refine skipIn_ (fun _ => trivial) (by rfl) ?_) | (refine gateIn_dst (N := 46) rfl ?_; refine skipIn_ (fun _ => trivial) (by rfl) ?_) | (refine gateIn_dst (N := 47) rfl ?_; refine skipIn_ (fun _ => trivial) (by rfl) ?_) | (refine gateIn_dst (N := 48) rfl ?_; refine skipIn_ (fun _ => trivial) (by rfl) ?_))
        refine ⟨⟨jn + 1, by omega, by push_cast; rfl, ⟨HT4.out.s⟩, ⟨?_⟩⟩, by simp [intOf]; omega⟩
        rw [part_succ, Hmay.out]
        simpa using HJ4.out
      | true =>
        obtain ⟨cb, hcb⟩ : ∃ b, canB L (nxt L l jn) (xs.drop (k + 1)) = b := ⟨_, rfl⟩
        have Hcan := Aside0.mk hcb
        clear hcb
        cases cb with
        | false =>
          gi_wp2_with (first | (refine gateIn_dst (N := 42) rfl ?_; refine callvIn (fun _ => trivial) rfl Try.func60 (by kernel_rfl) rfl #[.agg #[.int .i64 L, .int .i64 st, .slice A xs.length c], .agg #[.int .i64 k, .int .i64 l], .int .u8 jn] (by rfl) rfl rfl rfl (by simp [Act.eval, hw8]) ?_; refine (callsIn_wide.2 (may_calls L st A c xs k x l jn _ HT.out.fs.it.reads HT.out.fs.it.cap HXK.out)).mono ?_; rintro e w4 ⟨rfl, hb4⟩; have HT4 := Aside0.mk (HT.out.below hb4); have HB4 := Aside0.mk (blk_below HB.out hb4); have HJ4 := Aside0.mk (HE.out.hJ _ _ _ HJ.out (ChT.of_below hb4)); clear hb4 HT HB HJ; rw [Hmay.out]; obtain ⟨d1, d2, d3, d4, d5, d6, d7⟩ := HT4.out.cells2; have e1 := (blk_cell HB4.out 0).trans rfl; have e2 := (blk_cell HB4.out 1).trans rfl; have e3 := blk_lt HB4.out; refine ⟨_, rfl, ?_⟩) | (refine gateIn_dst (N := 47) rfl ?_; refine callvIn (fun _ => trivial) rfl Try.func68 (by kernel_rfl) rfl #[.agg #[.int .i64 (k + 1 : Nat), .int .i64 (nxt L l jn)], .pointer (some ⟨bs, 0, none⟩), .pointer (some ⟨bk, 0, none⟩), .pointer (some ⟨bm, 0, none⟩), .pointer (some ⟨bc, 0, none⟩)] (by rfl) rfl rfl rfl (by simp [Act.eval, Hwk.out]) ?_; refine (callsIn_wide.2 (can_calls L st A c xs bs bm bk bc km hL1 hL hx (xs.length - (k + 1)) (k + 1) (by omega) (nxt L l jn) _ hnx.1 hnx.2 HT4.out.fs.it)).mono ?_; rintro e w5 ⟨rfl, hc5, hm5⟩; have HT5 := Aside0.mk (HT4.out.changed hc5 hm5); have HB5 := Aside0.mk (hc5.heap HB4.out (HT4.out.fs.it.km_map _ _ _ _ HB4.out)); have HJ5 := Aside0.mk (HE.out.hJ _ _ _ HJ4.out (ChT.of_ch hc5 fun b o ho e => ⟨.inl e, not_row5_km HT4.out.fs.it.km_map b o ho e⟩)); clear hc5 hm5 HT4 HB4 HJ4; rw [Hcan.out]; refine ⟨_, rfl, ?_⟩))
          refine ⟨⟨jn + 1, by omega, by push_cast; rfl, ⟨HT5.out.s⟩, ⟨?_⟩⟩, by simp [intOf]; omega⟩
          have hz : hists L (nxt L l jn) (xs.drop (k + 1)) = [] := by
            by_cases hz : hists L (nxt L l jn) (xs.drop (k + 1)) = []
            · exact hz
            · have := (canB_iff L _ _).2 hz
              rw [Hcan.out] at this; cases this
          rw [part_succ, Hmay.out, hz]
          simpa using HJ5.out
        | true =>
          gi_wp2_with (first | (refine gateIn_dst (N := 42) rfl ?_; refine callvIn (fun _ => trivial) rfl Try.func60 (by kernel_rfl) rfl #[.agg #[.int .i64 L, .int .i64 st, .slice A xs.length c], .agg #[.int .i64 k, .int .i64 l], .int .u8 jn] (by rfl) rfl rfl rfl (by simp [Act.eval, hw8]) ?_; refine (callsIn_wide.2 (may_calls L st A c xs k x l jn _ HT.out.fs.it.reads HT.out.fs.it.cap HXK.out)).mono ?_; rintro e w4 ⟨rfl, hb4⟩; have HT4 := Aside0.mk (HT.out.below hb4); have HB4 := Aside0.mk (blk_below HB.out hb4); have HJ4 := Aside0.mk (HE.out.hJ _ _ _ HJ.out (ChT.of_below hb4)); clear hb4 HT HB HJ; rw [Hmay.out]; obtain ⟨d1, d2, d3, d4, d5, d6, d7⟩ := HT4.out.cells2; have e1 := (blk_cell HB4.out 0).trans rfl; have e2 := (blk_cell HB4.out 1).trans rfl; have e3 := blk_lt HB4.out; refine ⟨_, rfl, ?_⟩) | (refine gateIn_dst (N := 47) rfl ?_; refine callvIn (fun _ => trivial) rfl Try.func68 (by kernel_rfl) rfl #[.agg #[.int .i64 (k + 1 : Nat), .int .i64 (nxt L l jn)], .pointer (some ⟨bs, 0, none⟩), .pointer (some ⟨bk, 0, none⟩), .pointer (some ⟨bm, 0, none⟩), .pointer (some ⟨bc, 0, none⟩)] (by rfl) rfl rfl rfl (by simp [Act.eval, Hwk.out]) ?_; refine (callsIn_wide.2 (can_calls L st A c xs bs bm bk bc km hL1 hL hx (xs.length - (k + 1)) (k + 1) (by omega) (nxt L l jn) _ hnx.1 hnx.2 HT4.out.fs.it)).mono ?_; rintro e w5 ⟨rfl, hc5, hm5⟩; have HT5 := Aside0.mk (HT4.out.changed hc5 hm5); have HB5 := Aside0.mk (hc5.heap HB4.out (HT4.out.fs.it.km_map _ _ _ _ HB4.out)); have HJ5 := Aside0.mk (HE.out.hJ _ _ _ HJ4.out (ChT.of_ch hc5 fun b o ho e => ⟨.inl e, not_row5_km HT4.out.fs.it.km_map b o ho e⟩)); clear hc5 hm5 HT4 HB4 HJ4; rw [Hcan.out]; refine ⟨_, rfl, ?_⟩))
          have hu88 := Try.underlying88
          have hu85 := Try.underlying85
          have hu86 := Try.underlying86
          have HBL : Aside0 (bh < W.heap.size) := ⟨blk_lt HF.out.h.choose_spec.choose_spec.1⟩
          have HRW := Aside0.mk HT5.out.fs.h.row
          obtain ⟨vv, hs28⟩ := HRW.out.cell (3 + k) (by omega)
          have hfs28 := HRW.out.frozen (3 + k)
          obtain ⟨vv2, hs29⟩ := HRW.out.cell (17 + k) (by omega)
          have hfs29 := HRW.out.frozen (17 + k)
          have hk14 : (k : Int) < 14 := by omega
          have hk0' : (0 : Int) ≤ (k : Int) := by omega
          clear e1 e2 d1 d2 d3 d4 d5 d6 d7 c1 c2 c3 c4 c5 c6 c7
          refine startIn_ (n := 14) (S := (fun w' => Ch (· = bh) w5 w')) (ds := []) #[false, false, false, false, false, false, false, false, false, false, false, false, false, false] (by kernel_rfl) rfl rfl ((Ch.refl _ _).drew) rfl (fun hHeld => ?_)
          refine with_tabW f70.tab8 f70.bits8 (fun HT_ HW_ => ?_)
          refine take_ (i := 0) (N := some 50) (v := ?_) (a' := ?_) #[true, false, false, false, false, false, false, false, false, false, false, false, false, false] rfl rfl (take_ofW HT_.out HW_.out (by kernel_rfl)) (fun _ _ _ h => h) (Or.inl ⟨by rfl, ?_⟩) hHeld ?_ ?_
          rotate_left
          · rintro w' hS
            obtain ⟨s0, s1⟩ := HT5.out.s.at_ HBL.out hS
            clear hS
            go_simp
            with_reducible rfl
          rotate_left
          · simp only [Act.put, List.setIfInBounds_toArray, List.set_cons_zero, List.set_cons_succ, i64_w, i32_w]
            rfl
          refine take_ (i := 1) (N := some 51) (v := ?_) (a' := ?_) #[true, true, false, false, false, false, false, false, false, false, false, false, false, false] rfl rfl (take_ofW HT_.out HW_.out (by kernel_rfl)) (fun _ _ _ h => h) (Or.inl ⟨by rfl, ?_⟩) hHeld ?_ ?_
          rotate_left
          · rintro w' hS
            obtain ⟨s0, s1⟩ := HT5.out.s.at_ HBL.out hS
            clear hS
            go_simp
            with_reducible rfl
          rotate_left
          · simp only [Act.put, List.setIfInBounds_toArray, List.set_cons_zero, List.set_cons_succ, i64_w, i32_w]
            rfl
          refine take_ (i := 2) (N := some 52) (v := ?_) (a' := ?_) #[true, true, true, false, false, false, false, false, false, false, false, false, false, false] rfl rfl (take_ofW HT_.out HW_.out (by kernel_rfl)) (fun _ _ _ h => h) (Or.inl ⟨by rfl, ?_⟩) hHeld ?_ ?_
          rotate_left
          · rintro w' hS
            obtain ⟨s0, s1⟩ := HT5.out.s.at_ HBL.out hS
            clear hS
            go_simp
            with_reducible rfl
          rotate_left
          · simp only [Act.put, List.setIfInBounds_toArray, List.set_cons_zero, List.set_cons_succ, i64_w, i32_w]
            rfl
          refine take_ (i := 3) (N := some 53) (v := ?_) (a' := ?_) #[true, true, true, true, false, false, false, false, false, false, false, false, false, false] rfl rfl (take_ofW HT_.out HW_.out (by kernel_rfl)) (fun _ _ _ h => h) (Or.inl ⟨by rfl, ?_⟩) hHeld ?_ ?_
          rotate_left
          · rintro w' hS
            obtain ⟨s0, s1⟩ := HT5.out.s.at_ HBL.out hS
            clear hS
            go_simp
            with_reducible rfl
          rotate_left
          · simp only [Act.put, List.setIfInBounds_toArray, List.set_cons_zero, List.set_cons_succ, i64_w, i32_w]
            rfl
          refine take_ (i := 4) (N := some 54) (v := ?_) (a' := ?_) #[true, true, true, true, true, false, false, false, false, false, false, false, false, false] rfl rfl (take_ofW HT_.out HW_.out (by kernel_rfl)) (fun _ _ _ h => h) (Or.inl ⟨by rfl, ?_⟩) hHeld ?_ ?_
          rotate_left
          · rintro w' hS
            obtain ⟨s0, s1⟩ := HT5.out.s.at_ HBL.out hS
            clear hS
            go_simp
            with_reducible rfl
          rotate_left
          · simp only [Act.put, List.setIfInBounds_toArray, List.set_cons_zero, List.set_cons_succ, i64_w, i32_w]
            rfl
          refine take_ (i := 5) (N := some 55) (v := ?_) (a' := ?_) #[true, true, true, true, true, true, false, false, false, false, false, false, false, false] rfl rfl (take_ofW HT_.out HW_.out (by kernel_rfl)) (fun _ _ _ h => h) (Or.inl ⟨by rfl, ?_⟩) hHeld ?_ ?_
          rotate_left
          · rintro w' hS
            obtain ⟨s0, s1⟩ := HT5.out.s.at_ HBL.out hS
            clear hS
            go_simp
            with_reducible rfl
          rotate_left
          · simp only [Act.put, List.setIfInBounds_toArray, List.set_cons_zero, List.set_cons_succ, i64_w, i32_w]
            rfl
          refine take_ (i := 6) (N := some 56) (v := ?_) (a' := ?_) #[true, true, true, true, true, true, true, false, false, false, false, false, false, false] rfl rfl (take_ofW HT_.out HW_.out (by kernel_rfl)) (fun _ _ _ h => h) (Or.inl ⟨by rfl, ?_⟩) hHeld ?_ ?_
          rotate_left
          · rintro w' hS
            obtain ⟨s0, s1⟩ := HT5.out.s.at_ HBL.out hS
            clear hS
            go_simp
            with_reducible rfl
          rotate_left
          · simp only [Act.put, List.setIfInBounds_toArray, List.set_cons_zero, List.set_cons_succ, i64_w, i32_w]
            rfl
          refine take_ (i := 7) (N := some 57) (v := ?_) (a' := ?_) #[true, true, true, true, true, true, true, true, false, false, false, false, false, false] rfl rfl (take_ofW HT_.out HW_.out (by kernel_rfl)) (fun _ _ _ h => h) (Or.inl ⟨by rfl, ?_⟩) hHeld ?_ ?_
          rotate_left
          · rintro w' hS
            obtain ⟨s0, s1⟩ := HT5.out.s.at_ HBL.out hS
            clear hS
            go_simp
            with_reducible rfl
          rotate_left
          · simp only [Act.put, List.setIfInBounds_toArray, List.set_cons_zero, List.set_cons_succ, i64_w, i32_w]
            rfl
          refine take_ (i := 8) (N := some 58) (v := ?_) (a' := ?_) #[true, true, true, true, true, true, true, true, true, false, false, false, false, false] rfl rfl (take_ofW HT_.out HW_.out (by kernel_rfl)) (fun _ _ _ h => h) (Or.inl ⟨by rfl, ?_⟩) hHeld ?_ ?_
          rotate_left
          · rintro w' hS
            obtain ⟨s0, s1⟩ := HT5.out.s.at_ HBL.out hS
            clear hS
            go_simp
            with_reducible rfl
          rotate_left
          · simp only [Act.put, List.setIfInBounds_toArray, List.set_cons_zero, List.set_cons_succ, i64_w, i32_w]
            rfl
          refine take_ (i := 9) (N := some 59) (v := ?_) (a' := ?_) #[true, true, true, true, true, true, true, true, true, true, false, false, false, false] rfl rfl (take_ofW HT_.out HW_.out (by kernel_rfl)) (fun _ _ _ h => h) (Or.inl ⟨by rfl, ?_⟩) hHeld ?_ ?_
          rotate_left
          · rintro w' hS
            obtain ⟨s0, s1⟩ := HT5.out.s.at_ HBL.out hS
            clear hS
            go_simp
            with_reducible rfl
          rotate_left
          · simp only [Act.put, List.setIfInBounds_toArray, List.set_cons_zero, List.set_cons_succ, i64_w, i32_w]
            rfl
          refine take_ (i := 11) (N := some 60) (v := ?_) (a' := ?_) #[true, true, true, true, true, true, true, true, true, true, false, true, false, false] rfl rfl (take_ofW HT_.out HW_.out (by kernel_rfl)) (fun _ _ _ h => h) (Or.inl ⟨by rfl, ?_⟩) hHeld ?_ ?_
          rotate_left
          · rintro w' hS
            obtain ⟨s0, s1⟩ := HT5.out.s.at_ HBL.out hS
            clear hS
            go_simp
            with_reducible rfl
          rotate_left
          · simp only [Act.put, List.setIfInBounds_toArray, List.set_cons_zero, List.set_cons_succ, i64_w, i32_w]
            rfl
          refine one_ (i := 10) (N := none) #[true, true, true, true, true, true, true, true, true, true, true, true, false, false] rfl rfl (one_of HT_.out (by kernel_rfl)) (by decide) (fun K hK => ?_)
          refine skip_ (w1 := ?_) (by rfl) rfl ?_ ?_
          rotate_left
          · go_simp
            rfl
          refine hK.out _ _ (hHeld.setCell _ _ (fun _ => rfl)) ?_
          clear hHeld
          intro hHeld
          clear hK K
          refine take_ (i := 12) (N := some 61) (v := ?_) (a' := ?_) #[true, true, true, true, true, true, true, true, true, true, true, true, true, false] rfl rfl (take_ofW HT_.out HW_.out (by kernel_rfl)) (fun _ _ _ h => h) (Or.inl ⟨by rfl, ?_⟩) hHeld ?_ ?_
          rotate_left
          · rintro w' hS
            obtain ⟨s0, s1⟩ := HT5.out.s.at_ HBL.out hS
            clear hS
            go_simp
            with_reducible rfl
          rotate_left
          · simp only [Act.put, List.setIfInBounds_toArray, List.set_cons_zero, List.set_cons_succ, i64_w, i32_w]
            rfl
          refine one_ (i := 13) (N := none) #[true, true, true, true, true, true, true, true, true, true, true, true, true, true] rfl rfl (one_of HT_.out (by kernel_rfl)) (by decide) (fun K hK => ?_)
          refine skip_ (w1 := ?_) (by rfl) rfl ?_ ?_
          rotate_left
          · go_simp
            rfl
          refine hK.out _ _ (hHeld.setCell _ _ (fun _ => rfl)) ?_
          clear hHeld
          intro hHeld
          clear hK K
          refine done_ (done_of HT_.out (by kernel_rfl)) ?_
          refine onlyN_mk ?_
          obtain ⟨D0, V0, hrow0, hrest0⟩ := HT5.out.fs.h
          have hb8 : HBox ((w5.setCell ⟨bh, 3 + k, none⟩ (.int .u8 jn)).setCell ⟨bh, 17 + k, none⟩ (.int .i64 l)).drew bh L st A xs.length c (p ++ [((jn : Int), l)]) := HBox.put HT5.out.fs.h hp hk hx jn l
          have HT8 := Aside0.mk (FSt.wrote HT5.out.fs HE.out hbh hd hHeld hb8)
          have HB8 := Aside0.mk (hHeld.heap HB5.out (blk_ne HB5.out hrow0 (by decide)))
          have HJ8 := Aside0.mk (HE.out.hJ _ _ _ HJ5.out (ChT.of_ch hHeld fun b o ho e => ⟨.inr (by have e : b = bh := e; omega), by have e : b = bh := e; subst e; rw [hrow0] at ho; cases ho; simp [Row5]⟩))
          have hsz : n1 ≤ ((w5.setCell ⟨bh, 3 + k, none⟩ (.int .u8 jn)).setCell ⟨bh, 17 + k, none⟩ (.int .i64 l)).drew.heap.size := Nat.le_trans hn1 (Nat.le_trans HT5.out.s.ch.size hHeld.size)
          have HC8 := Aside0.mk hHeld
          have HS5 := Aside0.mk HT5.out.s
          clear hHeld hb8 hrow0 hrest0 HB5 HJ5 hs28 hs29 hfs28 hfs29 HRW HT5
          generalize ((w5.setCell ⟨bh, 3 + k, none⟩ (.int .u8 jn)).setCell ⟨bh, 17 + k, none⟩ (.int .i64 l)).drew = w8 at HT8 HB8 HJ8 hsz HC8 ⊢
          have c1 := (blk_cell HT8.out.f 0).trans rfl
          have c2 := (blk_cell HB8.out 0).trans rfl
          have c3 := (blk_cell HB8.out 1).trans rfl
          have c4 := blk_lt HT8.out.f
          have c5 := blk_lt HB8.out
          have hpre : ((pre ++ part L l x (xs.drop (k + 1)) p jn) ++ (hists L (nxt L l jn) (xs.drop (k + 1))).map ((p ++ [((jn : Int), l)]) ++ ·)) <+: H := by
            refine List.IsPrefix.trans ?_ HH.out
            have h := part_succ L l x (xs.drop (k + 1)) p jn
            rw [Hmay.out, if_pos rfl] at h
            rw [List.append_assoc]
            refine List.prefix_append_right_inj _ |>.2 ?_
            have h3 := part_le (L := L) (l := l) (x := x) (rest := xs.drop (k + 1)) (p := p) (j := jn + 1) (by omega)
            rw [h] at h3
            simpa using h3
          have HPRE := Aside0.mk hpre
          clear hpre
          gi_wp2_with ((refine gateIn_dst (N := 64) rfl ?_; refine callvIn (fun _ => trivial) rfl Try.func70 (by kernel_rfl) rfl #[.agg #[.int .i64 (k + 1 : Nat), .int .i64 (nxt L l jn)], .pointer (some ⟨bs, 0, none⟩), .pointer (some ⟨by_, 0, none⟩), .pointer (some ⟨bh, 0, none⟩), .pointer (some ⟨bm, 0, none⟩), .pointer (some ⟨bc, 0, none⟩), .pointer (some ⟨bf, 0, none⟩)] (by rfl) rfl rfl rfl (by simp [Act.eval, Hwk.out]) ?_; refine (ih.out (n - 1) (nxt L l jn) (p ++ [((jn : Int), l)]) (pre ++ part L l x (xs.drop (k + 1)) p jn) _ hnx.1 hnx.2 (by simp [hp]) hsz HT8.out HJ8.out HPRE.out).mono ?_; rintro e w9 h9; obtain ⟨b, rfl, h10⟩ := fur_split h9; clear h9; refine ⟨_, rfl, ?_⟩))
          · rename_i hb
            rcases h10 with ⟨rfl, _⟩ | ⟨rfl, h10⟩
            · simp at hb
            · exact bodyPost_ret (results_tmp rfl _ _ _) rfl (.inr ⟨rfl, h10⟩)
          · rename_i hb
            rcases h10 with ⟨rfl, hf9, hj9, hc9⟩ | ⟨rfl, _⟩
            · refine ⟨⟨jn + 1, by omega, by push_cast; rfl, ⟨HS5.out.round HE.out hn1 HBL.out (by simp at hg; omega) HC8.out hc9 hf9.pop⟩, ⟨?_⟩⟩, by simp [intOf]; omega⟩
              rw [part_succ, Hmay.out, if_pos rfl]
              simpa using hj9
            · simp at hb
    · have hj4 : (3 : Int) ≤ (jn : Int) := by omega
      have hj6 : decide ((jn : Int) < 3) = false := decide_eq_false (by omega)
      gi_wp2_with fail
      obtain rfl : jn = 3 := by omega
      refine bodyPost_ret (results_tmp rfl _ _ _) rfl (.inl ⟨rfl, hS.out.fs, ?_, hS.out.ch⟩)
      rw [part_all HXK.out]; exact hJ.out
theorem further_calls (bs bm bk bc km by_ bh bf lp n1 : Nat) (L st : Int) (A : Option Addr) (c : Nat) (xs : List S67) (H : List (List (Int × Int))) (Sb : Nat → Obj → Prop) (J Jx : List (List (Int × Int)) → World → Prop)
    (E : Env0 bs bm bk bc km lp n1 L st A c xs H Sb J Jx) (hL1 : 1 ≤ L) (hL : L ≤ 8) (hx : xs.length ≤ 14) (hby : n1 ≤ by_) (hbh : n1 ≤ bh) (hbf : n1 ≤ bf) (hd : bh ≠ by_ ∧ bh ≠ bf) :
    ∀ (d k : Nat), k + d = xs.length → FurtherSaid bs bm bk bc km by_ bh bf lp n1 L st A c xs H Sb J Jx k
  | 0, k, h => by
    obtain rfl : k = xs.length := by omega
    exact further_end bs bm bk bc km by_ bh bf lp n1 L st A c xs H Sb J Jx E hx hby hbh hbf
  | d + 1, k, h => further_step bs bm bk bc km by_ bh bf lp n1 L st A c xs H Sb J Jx E hL1 hL hx hby hbh hbf hd k (by omega) ⟨further_calls bs bm bk bc km by_ bh bf lp n1 L st A c xs H Sb J Jx E hL1 hL hx hby hbh hbf hd d (k + 1) (by omega)⟩
end Go.Proofs.Ytkglggggmlnleaa.Print.Five
namespace Go.Proofs.Ytkglggggmlnleaa.Print
open Go.RowKit Go.Shelf Go.Proofs.YtkglggggmlnleaaW.PrintWords Go.Proofs.YtkglggggmlnleaaW.PrintLast Go.Proofs.YtkglggggmlnleaaW.PrintMore
set_option linter.unusedVariables false
set_option linter.unusedSimpArgs false
attribute [local go_sem] Oper.semAt_some

theorem roundIn_any {P : Program} {n n' l : Nat} {f : FuncId} {tmps : Array Value} {assign body : Code} {w : World} {R : Ending → World → Prop} (h : RoundIn Fence.wide n P l f tmps assign body w R) : RoundIn Fence.wide n' P l f tmps assign body w R :=
  ⟨h.1, fun c cs _ => h.2 c cs (fun d hd => by simp [Fence.wide] at hd)⟩
theorem yieldAt_any {P : Program} {n n' l : Nat} {args : Array Value} {w : World} {R : Ending → World → Prop} (h : YieldAt Fence.wide n P l args w R) : YieldAt Fence.wide n' P l args w R := by
  obtain ⟨fn, tmps, asg, bdy, h1, h2⟩ := h
  exact ⟨fn, tmps, asg, bdy, h1, roundIn_any h2⟩
section
variable {P : Program} {ops : Array Oper} {Q : Exit → Act → World → Prop} {n : Nat} {F : Fence} {o : Oper} {rest : List Oper} {a : Act}
/-- A whole row into the block that was made last, inside a fence. -/
theorem storeNewIn_ (hF : ∀ f, F.fn f) (ty : TypeId) (x y : Operand) (ho : o.op = .store ty x y) (hd : o.dst = none) (hgd : o.guard = none) {w0 : World} {c c' : Array Value} (hx : a.eval x = .pointer (some ⟨w0.heap.size, 0, none⟩)) (hy : a.eval y = .agg c')
    (hi : (P.info? ty).map (·.size) = some c'.size) (hs : c.size = c'.size) (h1 : c'.all (·.oneCell') = true)
    (h : ∀ w', w'.heap[w0.heap.size]? = some (.cells c' ty (0, 0)) → Below w0.heap.size w0 w' → w'.heap.size = w0.heap.size + 1 → wpListIn F n P ops Q rest a w') : wpListIn F n P ops Q (o :: rest) a (w0.alloc (.cells c ty)) :=
  wpListIn_step fun K hK => by
    have hw : Region.wanted o (yielded ops a.tmps) = true := by simp [Region.wanted, hgd]
    rw [if_pos hw]
    refine ⟨fun _ _ => hF _, ?_⟩
    have hrun : (execOp a.eval o).run P (w0.alloc (.cells c ty)) = .ok .skip (w0.alloc (.cells c' ty)) := by
      unfold execOp
      simp only [ho, hx, hy, Instr.storeAt, Instr.sureAddr, Sem.run_bind, Sem.run_pure, Result.andThen_ok, run_storeVar_new w0 ty c c' hi hs h1]
    rw [Oper.semAt_eq _ _ _ (fun c e => by rw [ho] at e; cases e), hrun]
    show K (a.put o.dst undef) _
    rw [hd]
    exact hK _ _ (h _ (blk_new w0 _) ((Below.refl _ _).alloc (Nat.le_refl _) _) (by simp))
end
theorem results_none_ {P : Program} {fn : Func} (h : fn.results = #[]) (tmps : Array Value) (w : World) : (results fn tmps).run P w = .ok (.tuple #[]) w := by
  simp [results, h]
theorem hists_len (L : Int) : ∀ (xs : List S67) (l : Int) (h : List (Int × Int)), h ∈ hists L l xs → h.length = xs.length
  | [], l, h, hm => by simp [hists] at hm; simp [hm]
  | x :: xs, l, h, hm => by
    simp only [hists, List.mem_flatMap] at hm
    obtain ⟨r, _, hm⟩ := hm
    split at hm
    · obtain ⟨h', hm', rfl⟩ := List.mem_map.1 hm
      simp [hists_len L xs _ h' hm']
    · simp at hm

end Go.Proofs.Ytkglggggmlnleaa.Print
namespace Go.Proofs.Ytkglggggmlnleaa.Print
open Go.RowKit Go.Proofs.YtkglggggmlnleaaW.PrintWords Go.Proofs.YtkglggggmlnleaaW.PrintLast Go.Proofs.YtkglggggmlnleaaW.PrintMore
set_option linter.unusedVariables false
set_option linter.unusedSimpArgs false

theorem new_at {w : World} {o : Obj} {k : Nat} (h : w.heap.size = k) : (w.alloc o).heap[k]? = some o := h ▸ blk_new w o
set_option maxHeartbeats 2000000 in
set_option maxRecDepth 100000 in
theorem histories_calls (L st : Int) (A : Option Addr) (c : Nat) (xs : List S67) (w : World) (hr : Kd.C k67 w A xs.length xs) (hc : xs.length ≤ c) :
    Calls Try.prog 46 #[.agg #[.int .i64 L, .int .i64 st, .slice A xs.length c]] w fun e w' => ∃ bs bm bk bc km, e = .returned (.func (.func 69) #[] #[.pointer (some ⟨bs, 0, none⟩), .pointer (some ⟨bm, 0, none⟩), .pointer (some ⟨bc, 0, none⟩)]) ∧
      IterSt w' bs bm bk bc km L st A c xs ∧ Below w.heap.size w w' ∧ (w.heap.size ≤ bs ∧ w.heap.size ≤ bm ∧ w.heap.size ≤ bk ∧ w.heap.size ≤ bc ∧ w.heap.size ≤ km) := by
  have hu34 := Try.underlying34
  have HR := Aside0.mk hr
  clear hr
  have hmk : ∀ W : World, (Instr.makeMap 117 none).run Try.prog W = .ok (.map (some W.heap.size)) (W.alloc (.map #[] 0)) := fun W => run_makeMap 117 W
  go_enter Try.func46, Try.ntmps46
  go_wp2_with fail
  go_ret
  refine ⟨w.heap.size, w.heap.size + 1, w.heap.size + 1 + 1 + 1, w.heap.size + 1 + 1 + 1 + 1, w.heap.size + 1 + 1, rfl, ⟨?_, ?_, ?_, ?_, ?_, ?_, hc⟩, ?_, by omega, by omega, by omega, by omega, by omega⟩
  · exact blk_alloc (blk_alloc (blk_alloc (blk_alloc (new_at rfl) _) _) _) _
  · exact blk_alloc (blk_alloc (blk_alloc (new_at (by simp)) _) _) _
  · exact blk_alloc (new_at (by simp)) _
  · exact new_at (by simp)
  · exact ⟨#[], 0, blk_alloc (blk_alloc (new_at (by simp)) _) _, by simp⟩
  · exact Kd.C_alloc (Kd.C_alloc (Kd.C_alloc (Kd.C_alloc (Kd.C_alloc HR.out _) _) _) _) _
  · exact (((((Below.refl _ w).alloc (by simp) _).alloc (by simp; try omega) _).alloc (by simp; try omega) _).alloc (by simp; try omega) _).alloc (by simp; try omega) _
end Go.Proofs.Ytkglggggmlnleaa.Print
namespace Go.Proofs.Ytkglggggmlnleaa.Print
open Go.RowKit Go.Shelf Go.Proofs.YtkglggggmlnleaaW.PrintWords Go.Proofs.YtkglggggmlnleaaW.PrintLast Go.Proofs.YtkglggggmlnleaaW.PrintMore
set_option linter.unusedVariables false
set_option linter.unusedSimpArgs false

/-- A function that ranged over a function leaves. -/
theorem mark_ret {F : Fence} {n : Nat} {P : Program} {fn : Func} {R : Ending → World → Prop} {tmps : Array Value} {d : Nat} {W : World} (hk : W.heap[d]? = some (.deferred (some [])))
    (h : ∀ W', (∀ b, b ≠ d → W'.heap[b]? = W.heap[b]?) → Below d W W' → ∃ v, (results fn tmps).run P W' = .ok v W' ∧ R (.returned v) W') :
    bodyPostM F n P fn R .ret { tmps, defers := [{ target := .collected d, args := #[] }] } W := by
  refine ⟨by simp, .inl ⟨_, _, rfl, run_takeDeferred hk, ?_⟩⟩
  obtain ⟨v, h1, h2⟩ := h (W.putObj d (.deferred none)) (fun b hb => World.putObj_heap_other hb) ⟨rfl, rfl, rfl, by simp [World.putObj], fun b hb => World.putObj_heap_other (by omega)⟩
  exact ⟨v, h1, h2⟩
end Go.Proofs.Ytkglggggmlnleaa.Print
namespace Go.Proofs.Ytkglggggmlnleaa.Print.Five
open Go.Proofs.Ytkglggggmlnleaa.Print
open Go.RowKit Go.Shelf Go.Proofs.YtkglggggmlnleaaW.PrintWords Go.Proofs.YtkglggggmlnleaaW.PrintLast Go.Proofs.YtkglggggmlnleaaW.PrintMore
set_option linter.unusedVariables false
set_option linter.unusedSimpArgs false
attribute [local go_sem] Oper.semAt_some
theorem ch_then {S : Nat → Prop} {T : Nat → Obj → Prop} {a b c : World} (h : Ch S a b) (k : ChT T b c) (ht : ∀ i o, i < a.heap.size → T i o → S i) : Ch S a c :=
  ⟨k.os.trans h.os, k.tape.trans h.tape, k.output.trans h.output, Nat.le_trans h.size k.size, fun i hi hn => by
    have hlt : i < b.heap.size := Nat.lt_of_lt_of_le hi h.size
    have hb := Array.getElem?_eq_getElem hlt
    exact ((k.block i _ hb (fun h2 => hn (ht i _ hi h2))).trans hb.symm).trans (h.block i hi hn)⟩
set_option maxHeartbeats 4000000 in
set_option maxRecDepth 100000 in
theorem hist_iter (L st : Int) (A : Option Addr) (c : Nat) (xs : List S67) (bs bm bk bc km lp : Nat) (w : World) (Sb : Nat → Obj → Prop) (hL1 : 1 ≤ L) (hL : L ≤ 8) (h0 : 0 ≤ st) (h1 : st < L) (hx : xs.length ≤ 14)
    (hI : IterSt w bs bm bk bc km L st A c xs) (hb : ∀ b o, Sb b o → ¬ Row5 o → b < w.heap.size) (hn : ∀ o, ¬ Row5 o → ¬ Sb bs o ∧ ¬ Sb bm o ∧ ¬ Sb bk o ∧ ¬ Sb bc o ∧ ¬ Sb km o) (hA : ∀ ad, A = some ad → 0 < xs.length → ∀ o, ¬ Sb ad.block o) :
    IterAt5 Try.prog 69 #[.pointer (some ⟨bs, 0, none⟩), .pointer (some ⟨bm, 0, none⟩), .pointer (some ⟨bc, 0, none⟩)] (hencs L st A xs.length c) (hists L st xs) (fun b o => (b = km ∨ w.heap.size ≤ b) ∧ ¬ Row5 o) Sb lp w := by
  intro n J Jx hJ hJx hY hJ0
  obtain ⟨es, cl, hkm, _⟩ := hI.memo
  have E : Env0 bs bm bk bc km lp w.heap.size L st A c xs (hists L st xs) Sb J Jx := by
    refine ⟨hJ, hJx, hb, fun ad e h => ?_, ⟨hn, (Array.getElem?_eq_some_iff.1 hkm).1⟩, hA, fun m pre x W1 h1 h2 => yieldAt_any (hY pre x W1 h1 h2)⟩
    obtain ⟨_, _, h3⟩ := hI.reads
    obtain ⟨ad', e', hh⟩ := h3 h
    rw [e] at e'; cases e'
    obtain ⟨cs, hs, _, hcell⟩ := hh 0 _ (List.getElem?_eq_getElem h)
    have h2 : 0 < cs.length := by rw [hs]; decide
    have := World.block_lt_of_cell? _ _ (hcell 0 _ (List.getElem?_eq_getElem h2))
    rwa [C67_block.add_block] at this
  have hs0 : w.cell? ⟨bs, 0, none⟩ = some (.int .i64 L) := (blk_cell hI.s 0).trans rfl
  have hs1 : w.cell? ⟨bs, 1, none⟩ = some (.int .i64 st) := (blk_cell hI.s 1).trans rfl
  have hs2 : w.cell? ⟨bs, 2, none⟩ = some (.slice A xs.length c) := (blk_cell hI.s 2).trans rfl
  have hlt := blk_lt hI.s
  have hu105 := Try.underlying105
  have hu34 := Try.underlying34
  have hu88 := Try.underlying88
  have HE := Aside0.mk E
  have HI := Aside0.mk hI
  have HJ := Aside0.mk hJ0
  have hJ' := Aside0.mk hJ
  have hY' := Aside0.mk hY
  clear E hI hJ0 hY hJ hJx hkm
  refine callsIn_of_wp Try.func69 rfl trivial ?_ rfl
  simp only [Try.ntmps69, List.size_toArray, List.length_cons, List.length_nil, Nat.reduceAdd, Nat.reduceSub, Array.replicate_succ, Array.replicate_zero, List.push_toArray, List.append_toArray, List.nil_append, List.cons_append]
  gi_wp2_with (first | (refine storeNewIn_ (fun _ => trivial) 88 (.tmp 5) (.tmp 8) rfl rfl rfl (by simp [Act.eval]) rfl (by kernel_rfl) (by kernel_rfl) (by kernel_rfl) ?_; intro w2 hw2 hb2 hz2; have HZ2 := Aside0.mk hz2; clear hz2; have HW2 := Aside0.mk hw2; have HB2 := Aside0.mk hb2; have t0 : w2.cell? ⟨bs, 0, none⟩ = some (.int .i64 L) := (blk_cell (blk_below (blk_alloc HI.out.s _) hb2) 0).trans rfl; have t1 : w2.cell? ⟨bs, 1, none⟩ = some (.int .i64 st) := (blk_cell (blk_below (blk_alloc HI.out.s _) hb2) 1).trans rfl; have t2 : w2.cell? ⟨bs, 2, none⟩ = some (.slice A xs.length c) := (blk_cell (blk_below (blk_alloc HI.out.s _) hb2) 2).trans rfl; have t3 := blk_lt (blk_below (blk_alloc HI.out.s (.cells #[.func (.yield lp) #[] #[]] 120)) hb2); clear hw2 hb2 hs0 hs1 hs2 hlt) |
    (refine gateIn_dst (N := 14) rfl ?_; refine callvIn (fun _ => trivial) rfl Try.func70 (by kernel_rfl) rfl #[.agg #[.int .i64 (0 : Nat), .int .i64 st], .pointer (some ⟨bs, 0, none⟩), .pointer (some ⟨w.heap.size, 0, none⟩), .pointer (some ⟨w.heap.size + 1, 0, none⟩), .pointer (some ⟨bm, 0, none⟩), .pointer (some ⟨bc, 0, none⟩), .pointer (some ⟨w2.heap.size, 0, none⟩)] (by rfl) rfl rfl rfl (by simp [Act.eval]) ?_))
  have hz : w2.heap.size = w.heap.size + 1 + 1 := by have := HZ2.out; simpa using this
  obtain ⟨o3, ho3⟩ : ∃ o3, o3 = Obj.cells #[.func (.func 70) #[] #[.pointer (some ⟨bs, 0, none⟩), .pointer (some ⟨w.heap.size, 0, none⟩), .pointer (some ⟨w.heap.size + 1, 0, none⟩), .pointer (some ⟨bm, 0, none⟩), .pointer (some ⟨bc, 0, none⟩), .pointer (some ⟨w2.heap.size, 0, none⟩)]] 118 (0, 0) := ⟨_, rfl⟩
  rw [← ho3]
  have hb3 : Below w.heap.size w (w2.alloc o3) := (((Below.refl _ w).alloc (Nat.le_refl _) _).trans (HB2.out.mono (by simp))).alloc (by omega) _
  have hF : FSt (w2.alloc o3) bs bm bk bc km w.heap.size (w.heap.size + 1) w2.heap.size lp L st A c xs [] := by
    refine ⟨HI.out.same hb3, ?_, ?_, ?_⟩
    · refine ⟨List.replicate 14 0, List.replicate 14 0, ?_, by simp, by simp, by simp, by simp, List.drop_replicate .., List.drop_replicate ..⟩
      have := blk_alloc HW2.out o3
      simpa using this
    · exact blk_alloc (blk_below (blk_new w _) HB2.out) o3
    · rw [ho3]; exact blk_new w2 _
  have hJ3 : J [] (w2.alloc o3) := hJ'.out _ _ _ HJ.out (.of_below hb3)
  refine (further_calls bs bm bk bc km w.heap.size (w.heap.size + 1) w2.heap.size lp w.heap.size L st A c xs (hists L st xs) Sb J Jx HE.out hL1 hL hx (Nat.le_refl _) (by omega) (by omega) ⟨by omega, by omega⟩ xs.length 0 (by omega)
    (n - 1) st [] [] (w2.alloc o3) h0 h1 rfl (by simp; omega) hF hJ3 (by simp)).mono ?_
  rintro e w4 (⟨rfl, _, hJ4, _⟩ | ⟨rfl, pre', hp', hx'⟩)
  · refine ⟨_, rfl, ?_⟩
    gi_wp2_with fail
    refine bodyPost_end (results_none_ rfl _ _) rfl ⟨⟨_, rfl⟩, .inl ?_⟩
    simpa using hJ4
  · refine ⟨_, rfl, ?_⟩
    gi_wp2_with fail
    exact bodyPost_end (results_none_ rfl _ _) rfl ⟨⟨_, rfl⟩, .inr ⟨pre', hp', hx'⟩⟩
set_option maxHeartbeats 4000000 in
set_option maxRecDepth 100000 in
theorem wpIn_hist5 {g : Operand} {p : Tmp} {assign body : Code} {Q : Exit → Act → World → Prop} {a : Act} {w : World} {n : Nat}
    (L st : Int) (A : Option Addr) (c : Nat) (xs : List S67) (bs bm bk bc km : Nat) (hg : a.eval g = .func (.func 69) #[] #[.pointer (some ⟨bs, 0, none⟩), .pointer (some ⟨bm, 0, none⟩), .pointer (some ⟨bc, 0, none⟩)])
    (hL1 : 1 ≤ L) (hL : L ≤ 8) (h0 : 0 ≤ st) (h1 : st < L) (hx : xs.length ≤ 14) (hI : IterSt w bs bm bk bc km L st A c xs)
    (Sb : Nat → Prop) (hSb : ∀ b, Sb b → b < w.heap.size ∧ b ≠ km ∧ b ≠ bs ∧ b ≠ bm ∧ b ≠ bk ∧ b ≠ bc ∧ ∀ ad, A = some ad → 0 < xs.length → b ≠ ad.block)
    (R : List (List (Int × Int)) → World → Prop) (Rx : Code → List (List (Int × Int)) → World → Prop)
    (hR : ∀ pre W W', R pre W → ChT (fun b o => ((b = km ∨ w.heap.size + 2 ≤ b) ∧ ¬ Row5 o) ∨ b = w.heap.size + 1) W W' → R pre W') (hRx : ∀ k pre W W', Rx k pre W → ChT (fun b o => ((b = km ∨ w.heap.size + 2 ≤ b) ∧ ¬ Row5 o) ∨ b = w.heap.size + 1) W W' → Rx k pre W') (hR0 : R [] w)
    (Ax : List (Int × Int) → Act → World → Prop) (hAx : ∀ x a' W o, Ax x a' W → Ax x a' (W.putObj (w.heap.size + 1) o))
    (hassign : ∀ (x : List (Int × Int)) (W : World) (m : Nat) (K : Act → World → Prop), w.heap.size + 1 < W.heap.size → x.length = xs.length → (∀ a' W', Below W.heap.size W W' → Ax x a' W' → K a' W') →
      assign.wpIn (Fence.wide.inRound (w.heap.size + 1)) m Try.prog (Exit.then K (fun _ _ _ => False)) { tmps := a.tmps.setIfInBounds p (hval L st A xs.length c x), defers := [] } W)
    (hbody : ∀ (pre : List (List (Int × Int))) (x : List (Int × Int)) (a' : Act) (W : World) (m : Nat), w.heap.size + 1 < W.heap.size → Ch (fun b => b = km ∨ Sb b) w W → R pre W → Ax x a' W → (pre ++ [x]) <+: hists L st xs → x.length = xs.length →
      body.wpIn (Fence.wide.inRound (w.heap.size + 1)) m Try.prog (roundEnd5 (fun b o => Sb b ∨ (w.heap.size + 2 ≤ b ∧ Row5 o)) R Rx (pre ++ [x]) W) a' W)
    (hdone : ∀ (W : World), Ch (fun b => b = km ∨ Sb b) w W → R (hists L st xs) W → W.heap[w.heap.size]? = some (.deferred (some [])) → Q .normal { a with defers := { target := .collected w.heap.size, args := #[] } :: a.defers } W)
    (hstop : ∀ (k : Code) (pre : List (List (Int × Int))) (W : World), pre <+: hists L st xs → Ch (fun b => b = km ∨ Sb b) w W → Rx k pre W → W.heap[w.heap.size]? = some (.deferred (some [])) → k.wpIn Fence.wide n Try.prog Q { a with defers := { target := .collected w.heap.size, args := #[] } :: a.defers } W) :
    (Code.rangeFunc g #[p] assign body).wpIn Fence.wide n Try.prog Q a w := by
  have hkm : km < w.heap.size := by obtain ⟨es, cl, h, _⟩ := hI.memo; exact (Array.getElem?_eq_some_iff.1 h).1
  have hbs := blk_lt hI.s
  have hbm := blk_lt hI.may
  have hbk := blk_lt hI.kn
  have hbc := blk_lt hI.can
  have hS1 : ¬ Sb w.heap.size := fun h => by have := (hSb _ h).1; omega
  have hS2 : ¬ Sb (w.heap.size + 1) := fun h => by have := (hSb _ h).1; omega
  have hAb : ∀ ad, A = some ad → 0 < xs.length → ad.block < w.heap.size := fun ad e h => by
    obtain ⟨_, _, h3⟩ := hI.reads
    obtain ⟨ad', e', hh⟩ := h3 h
    rw [e] at e'; cases e'
    obtain ⟨cs, hs, _, hcell⟩ := hh 0 _ (List.getElem?_eq_getElem h)
    have h2 : 0 < cs.length := by rw [hs]; decide
    have := World.block_lt_of_cell? _ _ (hcell 0 _ (List.getElem?_eq_getElem h2))
    rwa [C67_block.add_block] at this
  refine wpIn_range5 (xs := hists L st xs) (encs := hencs L st A xs.length c) (Si := fun b o => (b = km ∨ w.heap.size + 2 ≤ b) ∧ ¬ Row5 o) (Sb := (fun b o => Sb b ∨ (w.heap.size + 2 ≤ b ∧ Row5 o))) hg (enters_of Try.func69 (by kernel_rfl) rfl) ?_ (fun x => rfl) (fun h => by have := h.1; omega) (fun l h => by have := h.1; omega) (fun h => h.elim hS1 (fun h => by have := h.1; omega)) (fun l h => h.elim hS2 (fun h => by have := h.1; omega))
    (fun pre W => Ch (fun b => b = km ∨ Sb b) w W ∧ R pre W ∧ pre <+: hists L st xs) (fun k pre W => Ch (fun b => b = km ∨ Sb b) w W ∧ Rx k pre W) ?_ ?_ ⟨Ch.refl _ _, hR0, List.nil_prefix⟩ Ax hAx ?_ ?_ ?_ ?_
  · intro fn
    have hW : ((w.alloc (.deferred (some []))).alloc (.loop { state := .ready, pending := none, fn, tmps := a.tmps, params := #[p], assign, body, defers := w.heap.size })).heap.size = w.heap.size + 2 := by simp
    have := hist_iter L st A c xs bs bm bk bc km (w.heap.size + 1) ((w.alloc (.deferred (some []))).alloc (.loop { state := .ready, pending := none, fn, tmps := a.tmps, params := #[p], assign, body, defers := w.heap.size })) (fun b o => (Sb b ∨ (w.heap.size + 2 ≤ b ∧ Row5 o)) ∨ b = w.heap.size + 1) hL1 hL h0 h1 hx
      (hI.same (((Below.refl _ w).alloc (by simp) _).alloc (by simp) _)) ?_ ?_ ?_
    · rwa [hW] at this
    · rintro b o ((hb | hb) | rfl) ho
      · have := (hSb b hb).1; omega
      · exact absurd hb.2 ho
      · omega
    · intro o ho
      have far : ∀ b, b < w.heap.size → ¬ Sb b → ¬ ((Sb b ∨ (w.heap.size + 2 ≤ b ∧ Row5 o)) ∨ b = w.heap.size + 1) := by
        rintro b hb hs ((h | h) | h)
        · exact hs h
        · have := h.1; omega
        · omega
      exact ⟨far bs hbs (fun h => (hSb _ h).2.2.1 rfl), far bm hbm (fun h => (hSb _ h).2.2.2.1 rfl), far bk hbk (fun h => (hSb _ h).2.2.2.2.1 rfl), far bc hbc (fun h => (hSb _ h).2.2.2.2.2.1 rfl), far km hkm (fun h => (hSb _ h).2.1 rfl)⟩
    · rintro ad e h o ((hh | hh) | hh)
      · exact (hSb _ hh).2.2.2.2.2.2 ad e h rfl
      · have := hAb ad e h; have := hh.1; omega
      · have := hAb ad e h; omega
  · rintro pre W W' ⟨hc, hr, hp⟩ hk
    exact ⟨ch_then hc hk (fun i o hi h => h.elim (fun h => h.1.elim .inl (fun h => by omega)) (fun h => by omega)), hR _ _ _ hr hk, hp⟩
  · rintro k pre W W' ⟨hc, hr⟩ hk
    exact ⟨ch_then hc hk (fun i o hi h => h.elim (fun h => h.1.elim .inl (fun h => by omega)) (fun h => by omega)), hRx _ _ _ _ hr hk⟩
  · rintro pre x W K hlt ⟨hc, hr, hp⟩ hpre hK
    have hm : x ∈ hists L st xs := hpre.subset (by simp)
    have := hassign x W (n - 1 - 1) K hlt (hists_len L xs st x hm) hK
    simpa [hencs] using this
  · rintro pre x a' W hlt ⟨hc, hr, hp⟩ hax hpre
    have hm : x ∈ hists L st xs := hpre.subset (by simp)
    refine Go.wpIn_mono (hbody pre x a' W (n - 1 - 1) hlt hc hr hax hpre (hists_len L xs st x hm)) ?_
    have hch : ∀ W', ChT (fun b o => Sb b ∨ (w.heap.size + 2 ≤ b ∧ Row5 o)) W W' → Ch (fun b => b = km ∨ Sb b) w W' := fun W' h => ch_then hc h (fun i o hi h => h.elim .inr (fun h => by have := h.1; omega))
    rintro e a3 W3 h
    cases e with
    | normal => exact ⟨h.1, hch _ h.1, h.2, hpre⟩
    | ret => exact ⟨h.1, hch _ h.1, h.2⟩
    | exit id => exact ⟨h.1, hch _ h.1, h.2⟩
    | goto t => exact ⟨h.1, hch _ h.1, h.2⟩
    | panic ch => exact h.elim
    | outgrown => exact h.elim
  · rintro W ⟨hc, hr, _⟩ hk
    exact hdone W hc hr hk
  · rintro k pre W hp ⟨hc, hr⟩ hk
    exact hstop k pre W hp hc hr hk
end Go.Proofs.Ytkglggggmlnleaa.Print.Five
namespace Go.Proofs.Ytkglggggmlnleaa.Print
open Go.RowKit Go.Shelf Go.Proofs.YtkglggggmlnleaaW.PrintWords Go.Proofs.YtkglggggmlnleaaW.PrintLast Go.Proofs.YtkglggggmlnleaaW.PrintMore
set_option linter.unusedVariables false
set_option linter.unusedSimpArgs false
theorem wpIn_hist {g : Operand} {p : Tmp} {assign body : Code} {Q : Exit → Act → World → Prop} {a : Act} {w : World} {n : Nat}
    (L st : Int) (A : Option Addr) (c : Nat) (xs : List S67) (bs bm bk bc km : Nat) (hg : a.eval g = .func (.func 69) #[] #[.pointer (some ⟨bs, 0, none⟩), .pointer (some ⟨bm, 0, none⟩), .pointer (some ⟨bc, 0, none⟩)])
    (hL1 : 1 ≤ L) (hL : L ≤ 8) (h0 : 0 ≤ st) (h1 : st < L) (hx : xs.length ≤ 14) (hI : IterSt w bs bm bk bc km L st A c xs)
    (Sb : Nat → Prop) (hSb : ∀ b, Sb b → b < w.heap.size ∧ b ≠ km ∧ b ≠ bs ∧ b ≠ bm ∧ b ≠ bk ∧ b ≠ bc ∧ ∀ ad, A = some ad → 0 < xs.length → b ≠ ad.block)
    (R : List (List (Int × Int)) → World → Prop) (Rx : Code → List (List (Int × Int)) → World → Prop)
    (hR : ∀ pre W W', R pre W → (∀ b, b < w.heap.size → b ≠ km → W'.heap[b]? = W.heap[b]?) → R pre W') (hRx : ∀ k pre W W', Rx k pre W → (∀ b, b < w.heap.size → b ≠ km → W'.heap[b]? = W.heap[b]?) → Rx k pre W') (hR0 : R [] w)
    (Ax : List (Int × Int) → Act → World → Prop) (hAx : ∀ x a' W o, Ax x a' W → Ax x a' (W.putObj (w.heap.size + 1) o))
    (hassign : ∀ (x : List (Int × Int)) (W : World) (m : Nat) (K : Act → World → Prop), w.heap.size + 1 < W.heap.size → x.length = xs.length → (∀ a' W', Below W.heap.size W W' → Ax x a' W' → K a' W') →
      assign.wpIn (Fence.wide.inRound (w.heap.size + 1)) m Try.prog (Exit.then K (fun _ _ _ => False)) { tmps := a.tmps.setIfInBounds p (hval L st A xs.length c x), defers := [] } W)
    (hbody : ∀ (pre : List (List (Int × Int))) (x : List (Int × Int)) (a' : Act) (W : World) (m : Nat), w.heap.size + 1 < W.heap.size → Ch (fun b => b = km ∨ Sb b) w W → R pre W → Ax x a' W → (pre ++ [x]) <+: hists L st xs → x.length = xs.length →
      body.wpIn (Fence.wide.inRound (w.heap.size + 1)) m Try.prog (roundEnd Sb R Rx (pre ++ [x]) W) a' W)
    (hdone : ∀ (W : World), Ch (fun b => b = km ∨ Sb b) w W → R (hists L st xs) W → W.heap[w.heap.size]? = some (.deferred (some [])) → Q .normal { a with defers := { target := .collected w.heap.size, args := #[] } :: a.defers } W)
    (hstop : ∀ (k : Code) (pre : List (List (Int × Int))) (W : World), pre <+: hists L st xs → Ch (fun b => b = km ∨ Sb b) w W → Rx k pre W → W.heap[w.heap.size]? = some (.deferred (some [])) → k.wpIn Fence.wide n Try.prog Q { a with defers := { target := .collected w.heap.size, args := #[] } :: a.defers } W) :
    (Code.rangeFunc g #[p] assign body).wpIn Fence.wide n Try.prog Q a w := by
  refine Five.wpIn_hist5 L st A c xs bs bm bk bc km hg hL1 hL h0 h1 hx hI Sb hSb (fun pre W => w.heap.size ≤ W.heap.size ∧ R pre W) (fun k pre W => w.heap.size ≤ W.heap.size ∧ Rx k pre W) ?_ ?_ ⟨Nat.le_refl _, hR0⟩ Ax hAx hassign ?_ ?_ ?_
  · rintro pre W W' ⟨hz, hr⟩ hk
    refine ⟨Nat.le_trans hz hk.size, hR _ _ _ hr (fun b hb hn => ?_)⟩
    have hb' := Array.getElem?_eq_getElem (Nat.lt_of_lt_of_le hb hz)
    refine (hk.block b _ hb' ?_).trans hb'.symm
    rintro (⟨h | h, _⟩ | h) <;> omega
  · rintro k pre W W' ⟨hz, hr⟩ hk
    refine ⟨Nat.le_trans hz hk.size, hRx _ _ _ _ hr (fun b hb hn => ?_)⟩
    have hb' := Array.getElem?_eq_getElem (Nat.lt_of_lt_of_le hb hz)
    refine (hk.block b _ hb' ?_).trans hb'.symm
    rintro (⟨h | h, _⟩ | h) <;> omega
  · rintro pre x a' W m hlt hch ⟨hz, hr⟩ hax hpre hx2
    refine Go.wpIn_mono (hbody pre x a' W m hlt hch hr hax hpre hx2) ?_
    have h5 : ∀ W', Ch Sb W W' → ChT (fun b o => Sb b ∨ (w.heap.size + 2 ≤ b ∧ Row5 o)) W W' := fun W' h => ChT.of_ch h (fun i o _ h => .inl h)
    rintro e a3 W3 h
    cases e with
    | normal => exact ⟨h5 _ h.1, Nat.le_trans hz h.1.size, h.2⟩
    | ret => exact ⟨h5 _ h.1, Nat.le_trans hz h.1.size, h.2⟩
    | exit id => exact ⟨h5 _ h.1, Nat.le_trans hz h.1.size, h.2⟩
    | goto t => exact ⟨h5 _ h.1, Nat.le_trans hz h.1.size, h.2⟩
    | panic ch => exact h.elim
    | outgrown => exact h.elim
  · rintro W hc ⟨_, hr⟩ hk
    exact hdone W hc hr hk
  · rintro k pre W hp hc ⟨_, hr⟩ hk
    exact hstop k pre W hp hc hr hk
end Go.Proofs.Ytkglggggmlnleaa.Print
