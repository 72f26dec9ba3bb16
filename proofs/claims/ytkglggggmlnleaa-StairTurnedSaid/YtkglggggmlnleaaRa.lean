/- A range over all histories. -/
import Derived.Test.YtkglggggmlnleaaF2
import Derived.Deep.WholeRow
import Derived.Test.YtkglggggmlnleaaCk
import Derived.RangeFuncLeaves
import Derived.RangeFuncOwn
namespace Go.Proofs.Ytkglggggmlnleaa.Print
open Go.RowKit Go.Shelf Go.Proofs.YtkglggggmlnleaaW.PrintWords Go.Proofs.YtkglggggmlnleaaW.PrintLast Go.Proofs.YtkglggggmlnleaaW.PrintMore
set_option linter.unusedVariables false
set_option linter.unusedSimpArgs false
attribute [local go_sem] Oper.semAt_some

theorem roundIn_any {P : Program} {n n' l : Nat} {f : FuncId} {tmps : Array Value} {assign body : Code} {w : World} {R : Ending → World → Prop} (h : RoundIn Fence.wide n P l f tmps assign body w R) : RoundIn Fence.wide n' P l f tmps assign body w R :=
  ⟨h.1, fun c cs _ => h.2 c cs (fun d hd => by simp [Fence.wide] at hd)⟩
theorem yieldAt_any {P : Program} {n n' l : Nat} {args : Array Value} {w : World} {R : Ending → World → Prop} (h : YieldAt Fence.wide n P l args w R) : YieldAt Fence.wide n' P l args w R := by
  obtain ⟨fn, tmps, asg, bdy, h1, h2⟩ := h
  exact ⟨fn, tmps, asg, bdy, h1, roundIn_any h2⟩
section
variable {P : Program} {ops : Array Oper} {Q : Exit → Act → World → Prop} {n : Nat} {F : Fence} {o : Oper} {rest : List Oper} {a : Act}
/-- A whole row into the block that was made last, inside a fence. -/
theorem storeNewIn_ (hF : ∀ f, F.fn f) (ty : TypeId) (x y : Operand) (ho : o.op = .store ty x y) (hd : o.dst = none) (hgd : o.guard = none) {w0 : World} {c c' : Array Value} (hx : a.eval x = .pointer (some ⟨w0.heap.size, 0, none⟩)) (hy : a.eval y = .agg c')
    (hi : (P.info? ty).map (·.size) = some c'.size) (hs : c.size = c'.size) (h1 : c'.all (·.oneCell') = true)
    (h : ∀ w', w'.heap[w0.heap.size]? = some (.cells c' ty (0, 0)) → Below w0.heap.size w0 w' → w'.heap.size = w0.heap.size + 1 → wpListIn F n P ops Q rest a w') : wpListIn F n P ops Q (o :: rest) a (w0.alloc (.cells c ty)) :=
  wpListIn_step fun K hK => by
    have hw : Region.wanted o (yielded ops a.tmps) = true := by simp [Region.wanted, hgd]
    rw [if_pos hw]
    refine ⟨fun _ _ => hF _, ?_⟩
    have hrun : (execOp a.eval o).run P (w0.alloc (.cells c ty)) = .ok .skip (w0.alloc (.cells c' ty)) := by
      unfold execOp
      simp only [ho, hx, hy, Instr.storeAt, Instr.sureAddr, Sem.run_bind, Sem.run_pure, Result.andThen_ok, run_storeVar_new w0 ty c c' hi hs h1]
    rw [Oper.semAt_eq _ _ _ (fun c e => by rw [ho] at e; cases e), hrun]
    show K (a.put o.dst undef) _
    rw [hd]
    exact hK _ _ (h _ (blk_new w0 _) ((Below.refl _ _).alloc (Nat.le_refl _) _) (by simp))
end
theorem results_none_ {P : Program} {fn : Func} (h : fn.results = #[]) (tmps : Array Value) (w : World) : (results fn tmps).run P w = .ok (.tuple #[]) w := by
  simp [results, h]
theorem hists_len (L : Int) : ∀ (xs : List S67) (l : Int) (h : List (Int × Int)), h ∈ hists L l xs → h.length = xs.length
  | [], l, h, hm => by simp [hists] at hm; simp [hm]
  | x :: xs, l, h, hm => by
    simp only [hists, List.mem_flatMap] at hm
    obtain ⟨r, _, hm⟩ := hm
    split at hm
    · obtain ⟨h', hm', rfl⟩ := List.mem_map.1 hm
      simp [hists_len L xs _ h' hm']
    · simp at hm

set_option maxHeartbeats 2000000 in
set_option maxRecDepth 100000 in
theorem hist_iter (L st : Int) (A : Option Addr) (c : Nat) (xs : List S67) (bs bm bk bc km lp : Nat) (w : World) (Sb : Nat → Prop) (hL1 : 1 ≤ L) (hL : L ≤ 8) (h0 : 0 ≤ st) (h1 : st < L) (hx : xs.length ≤ 14)
    (hI : IterSt w bs bm bk bc km L st A c xs) (hb : ∀ b, Sb b → b < w.heap.size) (hn : ¬ Sb bs ∧ ¬ Sb bm ∧ ¬ Sb bk ∧ ¬ Sb bc ∧ ¬ Sb km) (hA : ∀ ad, A = some ad → 0 < xs.length → ¬ Sb ad.block) :
    IterAt Try.prog 69 #[.pointer (some ⟨bs, 0, none⟩), .pointer (some ⟨bm, 0, none⟩), .pointer (some ⟨bc, 0, none⟩)] (hencs L st A xs.length c) (hists L st xs) (fun b => b = km ∨ w.heap.size ≤ b) Sb lp w := by
  intro n J Jx hJ hJx hY hJ0
  obtain ⟨es, cl, hkm, _⟩ := hI.memo
  have E : Env0 bs bm bk bc km lp w.heap.size L st A c xs (hists L st xs) Sb J Jx := by
    refine ⟨hJ, hJx, hb, fun ad e h => ?_, ⟨hn.1, hn.2.1, hn.2.2.1, hn.2.2.2.1, hn.2.2.2.2, (Array.getElem?_eq_some_iff.1 hkm).1⟩, hA, fun m pre x W1 h1 h2 => yieldAt_any (hY pre x W1 h1 h2)⟩
    obtain ⟨_, _, h3⟩ := hI.reads
    obtain ⟨ad', e', hh⟩ := h3 h
    rw [e] at e'; cases e'
    obtain ⟨cs, hs, _, hcell⟩ := hh 0 _ (List.getElem?_eq_getElem h)
    have h2 : 0 < cs.length := by rw [hs]; decide
    have := World.block_lt_of_cell? _ _ (hcell 0 _ (List.getElem?_eq_getElem h2))
    rwa [C67_block.add_block] at this
  have hs0 : w.cell? ⟨bs, 0, none⟩ = some (.int .i64 L) := (blk_cell hI.s 0).trans rfl
  have hs1 : w.cell? ⟨bs, 1, none⟩ = some (.int .i64 st) := (blk_cell hI.s 1).trans rfl
  have hs2 : w.cell? ⟨bs, 2, none⟩ = some (.slice A xs.length c) := (blk_cell hI.s 2).trans rfl
  have hlt := blk_lt hI.s
  have hu105 := Try.underlying105
  have hu34 := Try.underlying34
  have hu88 := Try.underlying88
  have HE := Aside0.mk E
  have HI := Aside0.mk hI
  have HJ := Aside0.mk hJ0
  have hJ' := Aside0.mk hJ
  have hY' := Aside0.mk hY
  clear E hI hJ0 hY hJ hJx hkm
  refine callsIn_of_wp Try.func69 rfl trivial ?_ rfl
  simp only [Try.ntmps69, List.size_toArray, List.length_cons, List.length_nil, Nat.reduceAdd, Nat.reduceSub, Array.replicate_succ, Array.replicate_zero, List.push_toArray, List.append_toArray, List.nil_append, List.cons_append]
  gi_wp2_with (first | (refine storeNewIn_ (fun _ => trivial) 88 (.tmp 5) (.tmp 8) rfl rfl rfl (by simp [Act.eval]) rfl (by kernel_rfl) (by kernel_rfl) (by kernel_rfl) ?_; intro w2 hw2 hb2 hz2; have HZ2 := Aside0.mk hz2; clear hz2; have HW2 := Aside0.mk hw2; have HB2 := Aside0.mk hb2; have t0 : w2.cell? ⟨bs, 0, none⟩ = some (.int .i64 L) := (blk_cell (blk_below (blk_alloc HI.out.s _) hb2) 0).trans rfl; have t1 : w2.cell? ⟨bs, 1, none⟩ = some (.int .i64 st) := (blk_cell (blk_below (blk_alloc HI.out.s _) hb2) 1).trans rfl; have t2 : w2.cell? ⟨bs, 2, none⟩ = some (.slice A xs.length c) := (blk_cell (blk_below (blk_alloc HI.out.s _) hb2) 2).trans rfl; have t3 := blk_lt (blk_below (blk_alloc HI.out.s (.cells #[.func (.yield lp) #[] #[]] 120)) hb2); clear hw2 hb2 hs0 hs1 hs2 hlt) |
    (refine gateIn_dst (N := 14) rfl ?_; refine callvIn (fun _ => trivial) rfl Try.func70 (by kernel_rfl) rfl #[.agg #[.int .i64 (0 : Nat), .int .i64 st], .pointer (some ⟨bs, 0, none⟩), .pointer (some ⟨w.heap.size, 0, none⟩), .pointer (some ⟨w.heap.size + 1, 0, none⟩), .pointer (some ⟨bm, 0, none⟩), .pointer (some ⟨bc, 0, none⟩), .pointer (some ⟨w2.heap.size, 0, none⟩)] (by rfl) rfl rfl rfl (by simp [Act.eval]) ?_))
  have hz : w2.heap.size = w.heap.size + 1 + 1 := by have := HZ2.out; simpa using this
  obtain ⟨o3, ho3⟩ : ∃ o3, o3 = Obj.cells #[.func (.func 70) #[] #[.pointer (some ⟨bs, 0, none⟩), .pointer (some ⟨w.heap.size, 0, none⟩), .pointer (some ⟨w.heap.size + 1, 0, none⟩), .pointer (some ⟨bm, 0, none⟩), .pointer (some ⟨bc, 0, none⟩), .pointer (some ⟨w2.heap.size, 0, none⟩)]] 118 (0, 0) := ⟨_, rfl⟩
  rw [← ho3]
  have hb3 : Below w.heap.size w (w2.alloc o3) := (((Below.refl _ w).alloc (Nat.le_refl _) _).trans (HB2.out.mono (by simp))).alloc (by omega) _
  have hF : FSt (w2.alloc o3) bs bm bk bc km w.heap.size (w.heap.size + 1) w2.heap.size lp L st A c xs [] := by
    refine ⟨HI.out.same hb3, ?_, ?_, ?_⟩
    · refine ⟨List.replicate 14 0, List.replicate 14 0, ?_, by simp, by simp, by simp, by simp, List.drop_replicate .., List.drop_replicate ..⟩
      have := blk_alloc HW2.out o3
      simpa using this
    · exact blk_alloc (blk_below (blk_new w _) HB2.out) o3
    · rw [ho3]; exact blk_new w2 _
  have hJ3 : J [] (w2.alloc o3) := hJ'.out _ _ _ HJ.out (.of_below hb3)
  refine (further_calls bs bm bk bc km w.heap.size (w.heap.size + 1) w2.heap.size lp w.heap.size L st A c xs (hists L st xs) Sb J Jx HE.out hL1 hL hx (Nat.le_refl _) (by omega) (by omega) ⟨by omega, by omega⟩ xs.length 0 (by omega)
    (n - 1) st [] [] (w2.alloc o3) h0 h1 rfl (by simp; omega) hF hJ3 (by simp)).mono ?_
  rintro e w4 (⟨rfl, _, hJ4, _⟩ | ⟨rfl, pre', hp', hx'⟩)
  · refine ⟨_, rfl, ?_⟩
    gi_wp2_with fail
    refine bodyPost_end (results_none_ rfl _ _) rfl ⟨⟨_, rfl⟩, .inl ?_⟩
    simpa using hJ4
  · refine ⟨_, rfl, ?_⟩
    gi_wp2_with fail
    exact bodyPost_end (results_none_ rfl _ _) rfl ⟨⟨_, rfl⟩, .inr ⟨pre', hp', hx'⟩⟩
end Go.Proofs.Ytkglggggmlnleaa.Print
namespace Go.Proofs.Ytkglggggmlnleaa.Print
open Go.RowKit Go.Proofs.YtkglggggmlnleaaW.PrintWords Go.Proofs.YtkglggggmlnleaaW.PrintLast Go.Proofs.YtkglggggmlnleaaW.PrintMore
set_option linter.unusedVariables false
set_option linter.unusedSimpArgs false

theorem new_at {w : World} {o : Obj} {k : Nat} (h : w.heap.size = k) : (w.alloc o).heap[k]? = some o := h ▸ blk_new w o
set_option maxHeartbeats 2000000 in
set_option maxRecDepth 100000 in
theorem histories_calls (L st : Int) (A : Option Addr) (c : Nat) (xs : List S67) (w : World) (hr : Kd.C k67 w A xs.length xs) (hc : xs.length ≤ c) :
    Calls Try.prog 46 #[.agg #[.int .i64 L, .int .i64 st, .slice A xs.length c]] w fun e w' => ∃ bs bm bk bc km, e = .returned (.func (.func 69) #[] #[.pointer (some ⟨bs, 0, none⟩), .pointer (some ⟨bm, 0, none⟩), .pointer (some ⟨bc, 0, none⟩)]) ∧
      IterSt w' bs bm bk bc km L st A c xs ∧ Below w.heap.size w w' ∧ (w.heap.size ≤ bs ∧ w.heap.size ≤ bm ∧ w.heap.size ≤ bk ∧ w.heap.size ≤ bc ∧ w.heap.size ≤ km) := by
  have hu34 := Try.underlying34
  have HR := Aside0.mk hr
  clear hr
  have hmk : ∀ W : World, (Instr.makeMap 117 none).run Try.prog W = .ok (.map (some W.heap.size)) (W.alloc (.map #[] 0)) := fun W => run_makeMap 117 W
  go_enter Try.func46, Try.ntmps46
  go_wp2_with fail
  go_ret
  refine ⟨w.heap.size, w.heap.size + 1, w.heap.size + 1 + 1 + 1, w.heap.size + 1 + 1 + 1 + 1, w.heap.size + 1 + 1, rfl, ⟨?_, ?_, ?_, ?_, ?_, ?_, hc⟩, ?_, by omega, by omega, by omega, by omega, by omega⟩
  · exact blk_alloc (blk_alloc (blk_alloc (blk_alloc (new_at rfl) _) _) _) _
  · exact blk_alloc (blk_alloc (blk_alloc (new_at (by simp)) _) _) _
  · exact blk_alloc (new_at (by simp)) _
  · exact new_at (by simp)
  · exact ⟨#[], 0, blk_alloc (blk_alloc (new_at (by simp)) _) _, by simp⟩
  · exact Kd.C_alloc (Kd.C_alloc (Kd.C_alloc (Kd.C_alloc (Kd.C_alloc HR.out _) _) _) _) _
  · exact (((((Below.refl _ w).alloc (by simp) _).alloc (by simp; try omega) _).alloc (by simp; try omega) _).alloc (by simp; try omega) _).alloc (by simp; try omega) _
end Go.Proofs.Ytkglggggmlnleaa.Print
namespace Go.Proofs.Ytkglggggmlnleaa.Print
open Go.RowKit Go.Shelf Go.Proofs.YtkglggggmlnleaaW.PrintWords Go.Proofs.YtkglggggmlnleaaW.PrintLast Go.Proofs.YtkglggggmlnleaaW.PrintMore
set_option linter.unusedVariables false
set_option linter.unusedSimpArgs false

/-- A function that ranged over a function leaves. -/
theorem mark_ret {F : Fence} {n : Nat} {P : Program} {fn : Func} {R : Ending → World → Prop} {tmps : Array Value} {d : Nat} {W : World} (hk : W.heap[d]? = some (.deferred (some [])))
    (h : ∀ W', (∀ b, b ≠ d → W'.heap[b]? = W.heap[b]?) → Below d W W' → ∃ v, (results fn tmps).run P W' = .ok v W' ∧ R (.returned v) W') :
    bodyPostM F n P fn R .ret { tmps, defers := [{ target := .collected d, args := #[] }] } W := by
  refine ⟨by simp, .inl ⟨_, _, rfl, run_takeDeferred hk, ?_⟩⟩
  obtain ⟨v, h1, h2⟩ := h (W.putObj d (.deferred none)) (fun b hb => World.putObj_heap_other hb) ⟨rfl, rfl, rfl, by simp [World.putObj], fun b hb => World.putObj_heap_other (by omega)⟩
  exact ⟨v, h1, h2⟩
theorem wpIn_hist {g : Operand} {p : Tmp} {assign body : Code} {Q : Exit → Act → World → Prop} {a : Act} {w : World} {n : Nat}
    (L st : Int) (A : Option Addr) (c : Nat) (xs : List S67) (bs bm bk bc km : Nat) (hg : a.eval g = .func (.func 69) #[] #[.pointer (some ⟨bs, 0, none⟩), .pointer (some ⟨bm, 0, none⟩), .pointer (some ⟨bc, 0, none⟩)])
    (hL1 : 1 ≤ L) (hL : L ≤ 8) (h0 : 0 ≤ st) (h1 : st < L) (hx : xs.length ≤ 14) (hI : IterSt w bs bm bk bc km L st A c xs)
    (Sb : Nat → Prop) (hSb : ∀ b, Sb b → b < w.heap.size ∧ b ≠ km ∧ b ≠ bs ∧ b ≠ bm ∧ b ≠ bk ∧ b ≠ bc ∧ ∀ ad, A = some ad → 0 < xs.length → b ≠ ad.block)
    (R : List (List (Int × Int)) → World → Prop) (Rx : Code → List (List (Int × Int)) → World → Prop)
    (hR : ∀ pre W W', R pre W → (∀ b, b < w.heap.size → b ≠ km → W'.heap[b]? = W.heap[b]?) → R pre W') (hRx : ∀ k pre W W', Rx k pre W → (∀ b, b < w.heap.size → b ≠ km → W'.heap[b]? = W.heap[b]?) → Rx k pre W') (hR0 : R [] w)
    (Ax : List (Int × Int) → Act → World → Prop) (hAx : ∀ x a' W o, Ax x a' W → Ax x a' (W.putObj (w.heap.size + 1) o))
    (hassign : ∀ (x : List (Int × Int)) (W : World) (m : Nat) (K : Act → World → Prop), w.heap.size + 1 < W.heap.size → x.length = xs.length → (∀ a' W', Below W.heap.size W W' → Ax x a' W' → K a' W') →
      assign.wpIn (Fence.wide.inRound (w.heap.size + 1)) m Try.prog (Exit.then K (fun _ _ _ => False)) { tmps := a.tmps.setIfInBounds p (hval L st A xs.length c x), defers := [] } W)
    (hbody : ∀ (pre : List (List (Int × Int))) (x : List (Int × Int)) (a' : Act) (W : World) (m : Nat), w.heap.size + 1 < W.heap.size → Ch (fun b => b = km ∨ Sb b) w W → R pre W → Ax x a' W → (pre ++ [x]) <+: hists L st xs → x.length = xs.length →
      body.wpIn (Fence.wide.inRound (w.heap.size + 1)) m Try.prog (roundEnd Sb R Rx (pre ++ [x]) W) a' W)
    (hdone : ∀ (W : World), Ch (fun b => b = km ∨ Sb b) w W → R (hists L st xs) W → W.heap[w.heap.size]? = some (.deferred (some [])) → Q .normal { a with defers := { target := .collected w.heap.size, args := #[] } :: a.defers } W)
    (hstop : ∀ (k : Code) (pre : List (List (Int × Int))) (W : World), pre <+: hists L st xs → Ch (fun b => b = km ∨ Sb b) w W → Rx k pre W → W.heap[w.heap.size]? = some (.deferred (some [])) → k.wpIn Fence.wide n Try.prog Q { a with defers := { target := .collected w.heap.size, args := #[] } :: a.defers } W) :
    (Code.rangeFunc g #[p] assign body).wpIn Fence.wide n Try.prog Q a w := by
  have hkm : km < w.heap.size := by obtain ⟨es, cl, h, _⟩ := hI.memo; exact (Array.getElem?_eq_some_iff.1 h).1
  have hbs := blk_lt hI.s
  have hbm := blk_lt hI.may
  have hbk := blk_lt hI.kn
  have hbc := blk_lt hI.can
  have hS1 : ¬ Sb w.heap.size := fun h => by have := (hSb _ h).1; omega
  have hS2 : ¬ Sb (w.heap.size + 1) := fun h => by have := (hSb _ h).1; omega
  have hAb : ∀ ad, A = some ad → 0 < xs.length → ad.block < w.heap.size := fun ad e h => by
    obtain ⟨_, _, h3⟩ := hI.reads
    obtain ⟨ad', e', hh⟩ := h3 h
    rw [e] at e'; cases e'
    obtain ⟨cs, hs, _, hcell⟩ := hh 0 _ (List.getElem?_eq_getElem h)
    have h2 : 0 < cs.length := by rw [hs]; decide
    have := World.block_lt_of_cell? _ _ (hcell 0 _ (List.getElem?_eq_getElem h2))
    rwa [C67_block.add_block] at this
  refine wpIn_range (xs := hists L st xs) (encs := hencs L st A xs.length c) (Si := fun b => b = km ∨ w.heap.size + 2 ≤ b) (Sb := Sb) hg (enters_of Try.func69 (by kernel_rfl) rfl) ?_ (fun x => rfl) (by omega) (by omega) hS1 hS2
    (fun pre W => Ch (fun b => b = km ∨ Sb b) w W ∧ R pre W ∧ pre <+: hists L st xs) (fun k pre W => Ch (fun b => b = km ∨ Sb b) w W ∧ Rx k pre W) ?_ ?_ ⟨Ch.refl _ _, hR0, List.nil_prefix⟩ Ax hAx ?_ ?_ ?_ ?_
  · intro fn
    have hW : ((w.alloc (.deferred (some []))).alloc (.loop { state := .ready, pending := none, fn, tmps := a.tmps, params := #[p], assign, body, defers := w.heap.size })).heap.size = w.heap.size + 2 := by simp
    have := hist_iter L st A c xs bs bm bk bc km (w.heap.size + 1) ((w.alloc (.deferred (some []))).alloc (.loop { state := .ready, pending := none, fn, tmps := a.tmps, params := #[p], assign, body, defers := w.heap.size })) (fun b => Sb b ∨ b = w.heap.size + 1) hL1 hL h0 h1 hx
      (hI.same (((Below.refl _ w).alloc (by simp) _).alloc (by simp) _)) ?_ ?_ ?_
    · rwa [hW] at this
    · rintro b (hb | rfl)
      · have := (hSb b hb).1; omega
      · omega
    · exact ⟨fun h => h.elim (fun h => (hSb _ h).2.2.1 rfl) (by omega), fun h => h.elim (fun h => (hSb _ h).2.2.2.1 rfl) (by omega), fun h => h.elim (fun h => (hSb _ h).2.2.2.2.1 rfl) (by omega),
        fun h => h.elim (fun h => (hSb _ h).2.2.2.2.2.1 rfl) (by omega), fun h => h.elim (fun h => (hSb _ h).2.1 rfl) (by omega)⟩
    · intro ad e h hh
      rcases hh with hh | hh
      · exact (hSb _ hh).2.2.2.2.2.2 ad e h rfl
      · have := hAb ad e h; omega
  · rintro pre W W' ⟨hc, hr, hp⟩ hk
    refine ⟨hc.then_ hk (fun _ _ h => h) (fun i hi h => ?_), hR _ _ _ hr (fun b hb hn => hk.block b (Nat.lt_of_lt_of_le hb hc.size) ?_), hp⟩
    · rcases h with (h | h) | h
      · exact .inl h
      · omega
      · omega
    · rintro ((h | h) | h)
      · exact hn h
      · omega
      · omega
  · rintro k pre W W' ⟨hc, hr⟩ hk
    refine ⟨hc.then_ hk (fun _ _ h => h) (fun i hi h => ?_), hRx _ _ _ _ hr (fun b hb hn => hk.block b (Nat.lt_of_lt_of_le hb hc.size) ?_)⟩
    · rcases h with (h | h) | h
      · exact .inl h
      · omega
      · omega
    · rintro ((h | h) | h)
      · exact hn h
      · omega
      · omega
  · rintro pre x W K hlt ⟨hc, hr, hp⟩ hpre hK
    have hm : x ∈ hists L st xs := hpre.subset (by simp)
    have := hassign x W (n - 1 - 1) K hlt (hists_len L xs st x hm) hK
    simpa [hencs] using this
  · rintro pre x a' W hlt ⟨hc, hr, hp⟩ hax hpre
    have hm : x ∈ hists L st xs := hpre.subset (by simp)
    refine Go.wpIn_mono (hbody pre x a' W (n - 1 - 1) hlt hc hr hax hpre (hists_len L xs st x hm)) ?_
    have hch : ∀ W', Ch Sb W W' → Ch (fun b => b = km ∨ Sb b) w W' := fun W' h => hc.then_ h (fun _ _ h => h) (fun _ _ h => .inr h)
    rintro e a3 W3 h
    cases e with
    | normal => exact ⟨h.1, hch _ h.1, h.2, hpre⟩
    | ret => exact ⟨h.1, hch _ h.1, h.2⟩
    | exit id => exact ⟨h.1, hch _ h.1, h.2⟩
    | goto t => exact ⟨h.1, hch _ h.1, h.2⟩
    | panic ch => exact h.elim
    | outgrown => exact h.elim
  · rintro W ⟨hc, hr, _⟩ hk
    exact hdone W hc hr hk
  · rintro k pre W hp ⟨hc, hr⟩ hk
    exact hstop k pre W hp hc hr hk
end Go.Proofs.Ytkglggggmlnleaa.Print
