/- The search of the iterator: one run further. -/
import Derived.Test.YtkglggggmlnleaaC
namespace Go.Proofs.Ytkglggggmlnleaa.Print
open Go.RowKit Go.Shelf Go.Proofs.YtkglggggmlnleaaW.PrintWords Go.Proofs.YtkglggggmlnleaaW.PrintLast Go.Proofs.YtkglggggmlnleaaW.PrintMore
set_option linter.unusedVariables false
set_option linter.unusedSimpArgs false
attribute [local go_sem] Oper.semAt_some

/-- A list of numbers, padded with 0 to 14. -/
def pad (l : List Int) : List Int := l ++ List.replicate (14 - l.length) 0
/-- A history's cells. -/
def hcells (L st : Int) (A : Option Addr) (n c : Nat) (h : List (Int × Int)) : List Value :=
  [.int .i64 L, .int .i64 st, .slice A n c] ++ (pad (h.map (·.1))).map (.int .u8) ++ (pad (h.map (·.2))).map (.int .i64)
/-- A history as the iterator hands it over. -/
def hval (L st : Int) (A : Option Addr) (n c : Nat) (h : List (Int × Int)) : Value := .agg (hcells L st A n c h).toArray


section
variable {P : Program} {ops : Array Oper} {Q : Exit → Act → World → Prop} {n : Nat} {F : Fence} {o : Oper} {rest : List Oper} {a : Act} {W : World}
theorem gateIn_dst {N : Tmp} (_hN : o.dst = some N) (h : wpListIn F n P ops Q (o :: rest) a W) : wpListIn F n P ops Q (o :: rest) a W := h
/-- An operation whose guard is off, inside a fence. -/
theorem skipIn_ (hF : ∀ f, F.fn f) (hw : Region.wanted o (yielded ops a.tmps) = false) (h : wpListIn F n P ops Q rest (a.put o.dst undef) W) : wpListIn F n P ops Q (o :: rest) a W :=
  wpListIn_step fun K hK => by
    rw [hw]
    exact ⟨fun _ _ => hF _, hK _ _ h⟩
/-- An operation that yields a value, inside a fence. -/
theorem evIn (hF : ∀ f, F.fn f) {v : Value} {w1 : World} (hgd : o.guard = none) (hnd : noDefer o.op = true) (hrun : (execOp a.eval o).run P W = .ok (.value v) w1) (h : wpListIn F n P ops Q rest (a.put o.dst v) w1) : wpListIn F n P ops Q (o :: rest) a W :=
  wpListIn_step fun K hK => by
    have hw : Region.wanted o (yielded ops a.tmps) = true := by simp [Region.wanted, hgd]
    rw [if_pos hw]
    refine ⟨fun _ _ => hF _, ?_⟩
    rw [Oper.semAt_eq _ _ _ (fun c e => by rw [e] at hnd; cases hnd), hrun]
    exact hK _ _ h
theorem load_rowIn (hF : ∀ f, F.fn f) (ty : TypeId) (x : Operand) (ho : o.op = .load ty x) (hgd : o.guard = none) (g : Nat) (hx : a.eval x = .pointer (some ⟨g, 0, none⟩)) (t : TypeId) (cs : Array Value) (fr : Nat × Nat) (d : TypeDesc) (hg : W.heap[g]? = some (.cells cs t fr))
    (hu : P.underlying ty = some d) (hd : (match d with | .struct _ | .array _ _ => true | _ => false) = true) (hi : (P.info? ty).map (·.size) = some cs.size)
    (h : wpListIn F n P ops Q rest (a.put o.dst (.agg cs)) W) : wpListIn F n P ops Q (o :: rest) a W :=
  evIn hF hgd (by rw [ho]; rfl) (by
    unfold execOp
    simp only [ho, hx, Instr.loadAt, Instr.sureAddr, Sem.run_bind, Sem.run_pure, Result.andThen_ok, run_loadVar_row W g t ty cs fr d hg hu hd hi]) h
end
section
variable {P : Program} {ops : Array Oper} {Q : Exit → Act → World → Prop}
/-- What follows in order: no panic, no leaving. -/
def onlyN (Q : Exit → Act → World → Prop) : Exit → Act → World → Prop
  | .normal, a, w => Q .normal a w
  | _, _, _ => False
theorem onlyN_mk {a : Act} {w : World} (h : Q .normal a w) : onlyN Q .normal a w := h
theorem onlyN_out : ¬ LetsOut (onlyN Q) := fun ⟨_, _, h⟩ => h
theorem onlyN_of {e : Exit} {a : Act} {w : World} (h : onlyN Q e a w) : Q e a w := by
  cases e <;> first | exact h | exact False.elim h
/-- A region that draws its order, inside the wide fence: the same steps as in a plain one. -/
theorem startIn_ {S : World → Prop} {ds : List Nat} {L : List Oper} {id n nn : Nat} {a : Act} {w : World} (l : Array Bool) (hm : P.follows .mixedOrders = true) (hn : L.toArray.size = n) (hl : Array.replicate n false = l) (hS : S w.drew)
    (hd : L.all (fun o => noDefer o.op) = true)
    (h : S w.drew → wpAnyLast P .any L.toArray (onlyN Q) S ds n l a w.drew) : (Code.region id L.toArray true).wpIn Fence.wide nn P Q a w := by
  subst hn
  subst hl
  exact Go.wpIn_mono (wpIn_of_any (ro := none) hm onlyN_out hd (wpAny_of_last _ _ _ _ (h hS))) fun _ _ _ => onlyN_of
theorem startRd_ {S : World → Prop} {ds : List Nat} {L : List Oper} {id n nn l0 : Nat} {a : Act} {w : World} (l : Array Bool) (hm : P.follows .mixedOrders = true) (hn : L.toArray.size = n) (hl : Array.replicate n false = l) (hS : S w.drew)
    (hd : L.all (fun o => noDefer o.op) = true)
    (h : S w.drew → wpAnyLast P .any L.toArray (onlyN Q) S ds n l a w.drew) : (Code.region id L.toArray true).wpIn (Fence.wide.inRound l0) nn P Q a w := by
  subst hn
  subst hl
  exact Go.wpIn_mono (wpIn_of_any (ro := some l0) hm onlyN_out hd (wpAny_of_last _ _ _ _ (h hS))) fun _ _ _ => onlyN_of
end
theorem size88 : (Try.prog.info? 88).map (·.size) = some 31 := by kernel_rfl
theorem hcells_size {L st : Int} {A : Option Addr} {n c : Nat} {h : List (Int × Int)} (hh : h.length ≤ 14) : (hcells L st A n c h).toArray.size = 31 := by
  simp [hcells, pad]; omega
/-- What a round may change leaves the search's own memory. -/
theorem C67_block {w w1 : World} {A : Option Addr} {n : Nat} {xs : List S67} (h : Kd.C k67 w A n xs) (hc : ∀ ad, A = some ad → 0 < n → w1.heap[ad.block]? = w.heap[ad.block]?) : Kd.C k67 w1 A n xs := by
  obtain ⟨h1, h2, h3⟩ := h
  refine ⟨h1, h2, fun hn => ?_⟩
  obtain ⟨ad, e, hh⟩ := h3 hn
  refine ⟨ad, e, fun j p hj => ?_⟩
  obtain ⟨cs, hs, hr, hcell⟩ := hh j p hj
  refine ⟨cs, hs, ?_, fun i u hi => ?_⟩
  · have := k67_open hr
    rw [this]
    exact k67_mk w1 p
  · have := hcell i u hi
    rw [← this]
    refine World.cell?_of_block (w := w) ?_
    rw [add_block]
    exact hc ad e hn
where add_block {ad : Addr} {j : Nat} : (ad.add j).block = ad.block := by unfold Addr.add; split <;> rfl
section
variable {bs bm bk bc km by_ bh bf lp n1 : Nat} {L st : Int} {A : Option Addr} {c : Nat} {xs : List S67} {H : List (List (Int × Int))} {Sb : Nat → Prop} {J Jx : List (List (Int × Int)) → World → Prop} {p : List (Int × Int)} {W W' : World}
end

end Go.Proofs.Ytkglggggmlnleaa.Print
namespace Go.Proofs.Ytkglggggmlnleaa.Print
open Go.RowKit Go.Shelf Go.Proofs.YtkglggggmlnleaaW.PrintWords Go.Proofs.YtkglggggmlnleaaW.PrintLast Go.Proofs.YtkglggggmlnleaaW.PrintMore
set_option linter.unusedVariables false
set_option linter.unusedSimpArgs false
attribute [local go_sem] Oper.semAt_some

section
variable {bs bm bk bc km by_ bh bf lp : Nat} {L st : Int} {A : Option Addr} {c : Nat} {xs : List S67} {Sb : Nat → Prop} {p : List (Int × Int)} {W : World} {k : Nat} {l : Int} {g : Nat} {w w' : World}
end

section
variable {bs bm bk bc km by_ bh bf lp : Nat} {L st : Int} {A : Option Addr} {c : Nat} {xs : List S67} {Sb : Nat → Prop} {p : List (Int × Int)} {W : World} {k : Nat} {l : Int} {g gm jn gn : Nat} {w w' : World}
end

def Row31 (w : World) (bh : Nat) : Prop := ∃ cs, w.heap[bh]? = some (.cells cs 88 (0, 0)) ∧ cs.size = 31
section
variable {bs bm bk bc km by_ bh bf lp n1 : Nat} {L st : Int} {A : Option Addr} {c : Nat} {xs : List S67} {H : List (List (Int × Int))} {Sb : Nat → Prop} {J Jx : List (List (Int × Int)) → World → Prop} {p q : List (Int × Int)} {W : World} {k : Nat} {l : Int} {g gm jn : Nat} {w w' : World}
end

end Go.Proofs.Ytkglggggmlnleaa.Print
