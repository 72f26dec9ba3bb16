/- The search of the iterator: what it stands on, and its end. -/
import Derived.Test.YtkglggggmlnleaaC
namespace Go.Proofs.Ytkglggggmlnleaa.Print
open Go.RowKit Go.Shelf Go.Proofs.YtkglggggmlnleaaW.PrintWords Go.Proofs.YtkglggggmlnleaaW.PrintLast Go.Proofs.YtkglggggmlnleaaW.PrintMore
set_option linter.unusedVariables false
set_option linter.unusedSimpArgs false
attribute [local go_sem] Oper.semAt_some

/-- A list of numbers, padded with 0 to 14. -/
def pad (l : List Int) : List Int := l ++ List.replicate (14 - l.length) 0
/-- A history's cells. -/
def hcells (L st : Int) (A : Option Addr) (n c : Nat) (h : List (Int × Int)) : List Value :=
  [.int .i64 L, .int .i64 st, .slice A n c] ++ (pad (h.map (·.1))).map (.int .u8) ++ (pad (h.map (·.2))).map (.int .i64)
/-- A history as the iterator hands it over. -/
def hval (L st : Int) (A : Option Addr) (n c : Nat) (h : List (Int × Int)) : Value := .agg (hcells L st A n c h).toArray
def hencs (L st : Int) (A : Option Addr) (n c : Nat) (h : List (Int × Int)) : Array Value := #[hval L st A n c h]

/-- The variable h, the first runs of which are told. -/
def HBox (W : World) (bh : Nat) (L st : Int) (A : Option Addr) (n c : Nat) (p : List (Int × Int)) : Prop :=
  ∃ D V : List Int, W.heap[bh]? = some (.cells (([.int .i64 L, .int .i64 st, .slice A n c] : List Value) ++ D.map (Value.int .u8) ++ V.map (Value.int .i64)).toArray 88 (0, 0)) ∧
    D.length = 14 ∧ V.length = 14 ∧ D.take p.length = p.map (·.1) ∧ V.take p.length = p.map (·.2) ∧ D.drop n = List.replicate (14 - n) 0 ∧ V.drop n = List.replicate (14 - n) 0
theorem HBox.full {W : World} {bh : Nat} {L st : Int} {A : Option Addr} {n c : Nat} {p : List (Int × Int)} (h : HBox W bh L st A n c p) (hp : p.length = n) : W.heap[bh]? = some (.cells (hcells L st A n c p).toArray 88 (0, 0)) := by
  obtain ⟨D, V, h1, h2, h3, h4, h5, h6, h7⟩ := h
  have e1 : D = pad (p.map (·.1)) := by
    rw [← List.take_append_drop n D, h6, ← hp, h4]; simp [pad]
  have e2 : V = pad (p.map (·.2)) := by
    rw [← List.take_append_drop n V, h7, ← hp, h5]; simp [pad]
  rw [h1, e1, e2]; rfl

section
variable {P : Program} {ops : Array Oper} {Q : Exit → Act → World → Prop} {n : Nat} {F : Fence} {o : Oper} {rest : List Oper} {a : Act} {W : World}
theorem gateIn_dst {N : Tmp} (_hN : o.dst = some N) (h : wpListIn F n P ops Q (o :: rest) a W) : wpListIn F n P ops Q (o :: rest) a W := h
/-- An operation whose guard is off, inside a fence. -/
theorem skipIn_ (hF : ∀ f, F.fn f) (hw : Region.wanted o (yielded ops a.tmps) = false) (h : wpListIn F n P ops Q rest (a.put o.dst undef) W) : wpListIn F n P ops Q (o :: rest) a W :=
  wpListIn_step fun K hK => by
    rw [hw]
    exact ⟨fun _ _ => hF _, hK _ _ h⟩
/-- An operation that yields a value, inside a fence. -/
theorem evIn (hF : ∀ f, F.fn f) {v : Value} {w1 : World} (hgd : o.guard = none) (hnd : noDefer o.op = true) (hrun : (execOp a.eval o).run P W = .ok (.value v) w1) (h : wpListIn F n P ops Q rest (a.put o.dst v) w1) : wpListIn F n P ops Q (o :: rest) a W :=
  wpListIn_step fun K hK => by
    have hw : Region.wanted o (yielded ops a.tmps) = true := by simp [Region.wanted, hgd]
    rw [if_pos hw]
    refine ⟨fun _ _ => hF _, ?_⟩
    rw [Oper.semAt_eq _ _ _ (fun c e => by rw [e] at hnd; cases hnd), hrun]
    exact hK _ _ h
theorem load_rowIn (hF : ∀ f, F.fn f) (ty : TypeId) (x : Operand) (ho : o.op = .load ty x) (hgd : o.guard = none) (g : Nat) (hx : a.eval x = .pointer (some ⟨g, 0, none⟩)) (t : TypeId) (cs : Array Value) (fr : Nat × Nat) (d : TypeDesc) (hg : W.heap[g]? = some (.cells cs t fr))
    (hu : P.underlying ty = some d) (hd : (match d with | .struct _ | .array _ _ => true | _ => false) = true) (hi : (P.info? ty).map (·.size) = some cs.size)
    (h : wpListIn F n P ops Q rest (a.put o.dst (.agg cs)) W) : wpListIn F n P ops Q (o :: rest) a W :=
  evIn hF hgd (by rw [ho]; rfl) (by
    unfold execOp
    simp only [ho, hx, Instr.loadAt, Instr.sureAddr, Sem.run_bind, Sem.run_pure, Result.andThen_ok, run_loadVar_row W g t ty cs fr d hg hu hd hi]) h
end
section
variable {P : Program} {ops : Array Oper} {Q : Exit → Act → World → Prop}
/-- A call of a function value, inside a fence without a depth. -/
theorem callvIn {F : Fence} {n : Nat} (hF : ∀ f, F.fn f) (hdep : F.depth = none) {rest : List Oper} {oi : Oper} {N : Option Tmp} {a : Act} {w : World} {f : FuncId} {fn : Func} {first cap : Array Value} {t : Tmp} {os : Array Operand} {ts : Array TypeId} (hf : P.funcs[f]? = some fn) (hname : (fn.name == "runtime.NumGoroutine") = false) (hb : fn.body.isSome = true) (args : Array Value)
    (hw : Region.wanted oi (yielded ops a.tmps) = true) (hN : oi.dst = N) (hop : oi.op = .call { callee := .value (.tmp t), args := os, argTypes := ts }) (hv : a.eval (.tmp t) = .func (.func f) first cap) (hargs : first ++ os.map a.eval ++ cap = args)
    (h : CallsIn F (n - 1) P f args w fun e w' => ∃ v, e = .returned v ∧ wpListIn F n P ops Q rest (a.put N v) w') : wpListIn F n P ops Q (oi :: rest) a w :=
  wpListIn_step fun K hK => by
    rw [if_pos hw]
    refine ⟨fun _ _ => hF _, ?_⟩
    rw [Oper.semAt_eq _ _ _ (fun c e => by rw [hop] at e; cases e), runv hf hname hb args hop hv hargs]
    refine ⟨fun hd => (by rw [hdep] at hd; cases hd), h.mono fun e w'' hh => ?_⟩
    obtain ⟨v, rfl, hk⟩ := hh
    subst hN
    exact hK _ _ hk
/-- What follows in order: no panic, no leaving. -/
def onlyN (Q : Exit → Act → World → Prop) : Exit → Act → World → Prop
  | .normal, a, w => Q .normal a w
  | _, _, _ => False
theorem onlyN_mk {a : Act} {w : World} (h : Q .normal a w) : onlyN Q .normal a w := h
theorem onlyN_out : ¬ LetsOut (onlyN Q) := fun ⟨_, _, h⟩ => h
theorem onlyN_of {e : Exit} {a : Act} {w : World} (h : onlyN Q e a w) : Q e a w := by
  cases e <;> first | exact h | exact False.elim h
/-- A region that draws its order, inside the wide fence: the same steps as in a plain one. -/
theorem startIn_ {S : World → Prop} {ds : List Nat} {L : List Oper} {id n nn : Nat} {a : Act} {w : World} (l : Array Bool) (hm : P.follows .mixedOrders = true) (hn : L.toArray.size = n) (hl : Array.replicate n false = l) (hS : S w.drew)
    (hd : L.all (fun o => noDefer o.op) = true)
    (h : S w.drew → wpAnyLast P .any L.toArray (onlyN Q) S ds n l a w.drew) : (Code.region id L.toArray true).wpIn Fence.wide nn P Q a w := by
  subst hn
  subst hl
  exact Go.wpIn_mono (wpIn_of_any (ro := none) hm onlyN_out hd (wpAny_of_last _ _ _ _ (h hS))) fun _ _ _ => onlyN_of
theorem startRd_ {S : World → Prop} {ds : List Nat} {L : List Oper} {id n nn l0 : Nat} {a : Act} {w : World} (l : Array Bool) (hm : P.follows .mixedOrders = true) (hn : L.toArray.size = n) (hl : Array.replicate n false = l) (hS : S w.drew)
    (hd : L.all (fun o => noDefer o.op) = true)
    (h : S w.drew → wpAnyLast P .any L.toArray (onlyN Q) S ds n l a w.drew) : (Code.region id L.toArray true).wpIn (Fence.wide.inRound l0) nn P Q a w := by
  subst hn
  subst hl
  exact Go.wpIn_mono (wpIn_of_any (ro := some l0) hm onlyN_out hd (wpAny_of_last _ _ _ _ (h hS))) fun _ _ _ => onlyN_of
end
theorem size88 : (Try.prog.info? 88).map (·.size) = some 31 := by kernel_rfl
theorem hcells_size {L st : Int} {A : Option Addr} {n c : Nat} {h : List (Int × Int)} (hh : h.length ≤ 14) : (hcells L st A n c h).toArray.size = 31 := by
  simp [hcells, pad]; omega
/-- What the search stands on: the iterator's memory, the variable h, yield, the search itself. -/
structure FSt (W : World) (bs bm bk bc km by_ bh bf lp : Nat) (L st : Int) (A : Option Addr) (c : Nat) (xs : List S67) (p : List (Int × Int)) : Prop where
  it : IterSt W bs bm bk bc km L st A c xs
  h : HBox W bh L st A xs.length c p
  y : W.heap[by_]? = some (.cells #[.func (.yield lp) #[] #[]] 120 (0, 0))
  f : W.heap[bf]? = some (.cells #[.func (.func 70) #[] #[.pointer (some ⟨bs, 0, none⟩), .pointer (some ⟨by_, 0, none⟩), .pointer (some ⟨bh, 0, none⟩), .pointer (some ⟨bm, 0, none⟩), .pointer (some ⟨bc, 0, none⟩), .pointer (some ⟨bf, 0, none⟩)]] 118 (0, 0))
/-- The caller's side of the iterator: what a round may change (Sb), what it keeps; what the caller holds (J, Jx). -/
structure Env0 (bs bm bk bc km lp n1 : Nat) (L st : Int) (A : Option Addr) (c : Nat) (xs : List S67) (H : List (List (Int × Int))) (Sb : Nat → Prop) (J Jx : List (List (Int × Int)) → World → Prop) : Prop where
  hJ : ∀ pre W W', J pre W → Ch (fun b => b = km ∨ n1 ≤ b) W W' → J pre W'
  hJx : ∀ pre W W', Jx pre W → Ch (fun b => b = km ∨ n1 ≤ b) W W' → Jx pre W'
  hb : ∀ b, Sb b → b < n1
  hA2 : ∀ ad, A = some ad → 0 < xs.length → ad.block < n1
  n1 : ¬ Sb bs ∧ ¬ Sb bm ∧ ¬ Sb bk ∧ ¬ Sb bc ∧ ¬ Sb km ∧ km < n1
  hA : ∀ ad, A = some ad → 0 < xs.length → ¬ Sb ad.block
  hY : ∀ n pre x W1, J pre W1 → (pre ++ [x]) <+: H → YieldAt Fence.wide n Try.prog lp (hencs L st A xs.length c x) W1 fun e W' =>
      (e = .returned (.bool true) ∧ J (pre ++ [x]) W' ∧ Ch Sb W1 W') ∨ (e = .returned (.bool false) ∧ Jx (pre ++ [x]) W')
/-- What a round may change leaves the search's own memory. -/
theorem C67_block {w w1 : World} {A : Option Addr} {n : Nat} {xs : List S67} (h : Kd.C k67 w A n xs) (hc : ∀ ad, A = some ad → 0 < n → w1.heap[ad.block]? = w.heap[ad.block]?) : Kd.C k67 w1 A n xs := by
  obtain ⟨h1, h2, h3⟩ := h
  refine ⟨h1, h2, fun hn => ?_⟩
  obtain ⟨ad, e, hh⟩ := h3 hn
  refine ⟨ad, e, fun j p hj => ?_⟩
  obtain ⟨cs, hs, hr, hcell⟩ := hh j p hj
  refine ⟨cs, hs, ?_, fun i u hi => ?_⟩
  · have := k67_open hr
    rw [this]
    exact k67_mk w1 p
  · have := hcell i u hi
    rw [← this]
    refine World.cell?_of_block (w := w) ?_
    rw [add_block]
    exact hc ad e hn
where add_block {ad : Addr} {j : Nat} : (ad.add j).block = ad.block := by unfold Addr.add; split <;> rfl
section
variable {bs bm bk bc km by_ bh bf lp n1 : Nat} {L st : Int} {A : Option Addr} {c : Nat} {xs : List S67} {H : List (List (Int × Int))} {Sb : Nat → Prop} {J Jx : List (List (Int × Int)) → World → Prop} {p : List (Int × Int)} {W W' : World}
theorem FSt.kept (h : FSt W bs bm bk bc km by_ bh bf lp L st A c xs p) (E : Env0 bs bm bk bc km lp n1 L st A c xs H Sb J Jx) (hby : n1 ≤ by_) (hbh : n1 ≤ bh) (hbf : n1 ≤ bf) (hk : Ch Sb W W') : FSt W' bs bm bk bc km by_ bh bf lp L st A c xs p := by
  have hn : ∀ b, n1 ≤ b → ¬ Sb b := fun b hb hs => by have := E.hb b hs; omega
  obtain ⟨e1, e2, e3, e4, e5, _⟩ := E.n1
  obtain ⟨es, cl, hm, _⟩ := h.it.memo
  refine ⟨⟨hk.heap h.it.s e1, hk.heap h.it.may e2, hk.heap h.it.kn e3, hk.heap h.it.can e4, h.it.memo.of_same (hk.block _ (Array.getElem?_eq_some_iff.1 hm).1 e5), ?_, h.it.cap⟩, ?_, hk.heap h.y (hn _ hby), hk.heap h.f (hn _ hbf)⟩
  · refine C67_block h.it.reads (fun ad e h0 => ?_)
    refine hk.block _ ?_ (E.hA ad e h0)
    obtain ⟨_, _, h3⟩ := h.it.reads
    obtain ⟨ad', e', hh⟩ := h3 h0
    rw [e] at e'; cases e'
    obtain ⟨cs, hs, _, hcell⟩ := hh 0 _ (List.getElem?_eq_getElem h0)
    have h2 : 0 < cs.length := by rw [hs]; decide
    have := World.block_lt_of_cell? _ _ (hcell 0 _ (List.getElem?_eq_getElem h2))
    rwa [C67_block.add_block] at this
  · obtain ⟨D, V, h1, h2⟩ := h.h
    exact ⟨D, V, hk.heap h1 (hn _ hbh), h2⟩
end
/-- The search, from a run at a level on. -/
def FurtherSaid (bs bm bk bc km by_ bh bf lp n1 : Nat) (L st : Int) (A : Option Addr) (c : Nat) (xs : List S67) (H : List (List (Int × Int))) (Sb : Nat → Prop) (J Jx : List (List (Int × Int)) → World → Prop) (k : Nat) : Prop :=
  ∀ (n : Nat) (l : Int) (p : List (Int × Int)) (pre : List (List (Int × Int))) (W : World), 0 ≤ l → l < L → p.length = k → n1 ≤ W.heap.size → FSt W bs bm bk bc km by_ bh bf lp L st A c xs p → J pre W →
    (pre ++ (hists L l (xs.drop k)).map (p ++ ·)) <+: H →
    CallsIn Fence.wide n Try.prog 70 #[.agg #[.int .i64 k, .int .i64 l], .pointer (some ⟨bs, 0, none⟩), .pointer (some ⟨by_, 0, none⟩), .pointer (some ⟨bh, 0, none⟩), .pointer (some ⟨bm, 0, none⟩), .pointer (some ⟨bc, 0, none⟩), .pointer (some ⟨bf, 0, none⟩)] W
      fun e W' => (e = .returned (.bool true) ∧ FSt W' bs bm bk bc km by_ bh bf lp L st A c xs p ∧ J (pre ++ (hists L l (xs.drop k)).map (p ++ ·)) W' ∧ Ch (fun b => b = km ∨ b = bh ∨ Sb b) W W') ∨
        (e = .returned (.bool false) ∧ ∃ pre', pre' <+: H ∧ Jx pre' W')

set_option maxHeartbeats 1000000 in
set_option maxRecDepth 100000 in
theorem further_end (bs bm bk bc km by_ bh bf lp n1 : Nat) (L st : Int) (A : Option Addr) (c : Nat) (xs : List S67) (H : List (List (Int × Int))) (Sb : Nat → Prop) (J Jx : List (List (Int × Int)) → World → Prop)
    (E : Env0 bs bm bk bc km lp n1 L st A c xs H Sb J Jx) (hx : xs.length ≤ 14) (hby : n1 ≤ by_) (hbh : n1 ≤ bh) (hbf : n1 ≤ bf) : FurtherSaid bs bm bk bc km by_ bh bf lp n1 L st A c xs H Sb J Jx xs.length := by
  intro n l p pre W h0 h1 hp hn1 hF hJ hH
  have hs : W.cell? ⟨bs, 2, none⟩ = some (.slice A xs.length c) := (blk_cell hF.it.s 2).trans rfl
  have hlt := blk_lt hF.it.s
  have hyc : W.cell? ⟨by_, 0, none⟩ = some (.func (.yield lp) #[] #[]) := (blk_cell hF.y 0).trans rfl
  have hlty := blk_lt hF.y
  have hu105 := Try.underlying105
  have hu34 := Try.underlying34
  have hb1 : ((xs.length : Int) == (xs.length : Int)) = true := beq_self_eq_true _
  have hb2 : (xs.length == xs.length) = true := beq_self_eq_true _
  have HF := Aside0.mk hF
  have HJ := Aside0.mk hJ
  have HH := Aside0.mk hH
  have HE := Aside0.mk E
  clear hF hJ hH E
  refine callsIn_of_wp Try.func70 rfl trivial ?_ rfl
  simp only [Try.ntmps70, List.size_toArray, List.length_cons, List.length_nil, Nat.reduceAdd, Nat.reduceSub, Array.replicate_succ, Array.replicate_zero, List.push_toArray, List.append_toArray, List.nil_append, List.cons_append]
  have hload := HF.out.h.full hp
  have HL := Aside0.mk hload
  clear hload
  obtain ⟨x, hxx⟩ : ∃ x, hval L st A xs.length c p = x := ⟨_, rfl⟩
  have HX := Aside0.mk hxx
  clear hxx
  have hpre : (pre ++ [p]) <+: H := by have := HH.out; rw [List.drop_length] at this; simpa [hists] using this
  obtain ⟨fn, tmps, asg, bdy, hy, hR⟩ := HE.out.hY (n - 1) pre p (W.alloc (.cells #[.int .i64 xs.length, .int .i64 l] 105)) (HE.out.hJ _ _ _ HJ.out ((Ch.refl _ W).alloc _)) hpre
  rw [hencs, HX.out] at hy
  gi_wp2_with ((refine gateIn_dst (N := 19) rfl ?_); refine load_rowIn (fun _ => trivial) 88 (.tmp 3) rfl rfl bh rfl 88 _ (0, 0) _ (blk_alloc HL.out _) Try.underlying88 rfl (by rw [size88, hcells_size (by omega)]) ?_; rw [show Value.agg (hcells L st A xs.length c p).toArray = x from HX.out])
  refine ⟨fun hd => by simp [Fence.wide] at hd, ?_⟩
  refine hR.mono ?_
  have hal : Below W.heap.size W (W.alloc (.cells #[.int .i64 xs.length, .int .i64 l] 105)) := (Below.refl _ W).alloc (Nat.le_refl _) _
  rintro e W' (⟨rfl, hJ', hk⟩ | ⟨rfl, hJx'⟩)
  · gi_wp2_with fail
    refine bodyPost_ret (results_tmp rfl _ _ _) rfl (.inl ⟨rfl, ?_, ?_, ?_⟩)
    · exact HF.out.kept HE.out hby hbh hbf ((Ch.of_below hal).then_ hk (fun _ _ h => h) (fun _ _ h => h))
    · rw [List.drop_length]; simpa [hists] using hJ'
    · exact (Ch.of_below hal).then_ hk (fun _ _ h => h) (fun _ _ h => .inr (.inr h))
  · gi_wp2_with fail
    refine bodyPost_ret (results_tmp rfl _ _ _) rfl (.inr ⟨rfl, _, hpre, hJx'⟩)
end Go.Proofs.Ytkglggggmlnleaa.Print
