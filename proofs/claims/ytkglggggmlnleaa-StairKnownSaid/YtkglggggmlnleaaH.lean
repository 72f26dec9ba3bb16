/- The iterator of all histories. -/
import Derived.Test.YtkglggggmlnleaaF2
import Derived.Deep.WholeRow
namespace Go.Proofs.Ytkglggggmlnleaa.Print
open Go.RowKit Go.Shelf Go.Proofs.YtkglggggmlnleaaW.PrintWords Go.Proofs.YtkglggggmlnleaaW.PrintLast Go.Proofs.YtkglggggmlnleaaW.PrintMore
set_option linter.unusedVariables false
set_option linter.unusedSimpArgs false
attribute [local go_sem] Oper.semAt_some

theorem roundIn_any {P : Program} {n n' l : Nat} {f : FuncId} {tmps : Array Value} {assign body : Code} {w : World} {R : Ending → World → Prop} (h : RoundIn Fence.wide n P l f tmps assign body w R) : RoundIn Fence.wide n' P l f tmps assign body w R :=
  ⟨h.1, fun c cs _ => h.2 c cs (fun d hd => by simp [Fence.wide] at hd)⟩
theorem yieldAt_any {P : Program} {n n' l : Nat} {args : Array Value} {w : World} {R : Ending → World → Prop} (h : YieldAt Fence.wide n P l args w R) : YieldAt Fence.wide n' P l args w R := by
  obtain ⟨fn, tmps, asg, bdy, h1, h2⟩ := h
  exact ⟨fn, tmps, asg, bdy, h1, roundIn_any h2⟩
section
variable {P : Program} {ops : Array Oper} {Q : Exit → Act → World → Prop} {n : Nat} {F : Fence} {o : Oper} {rest : List Oper} {a : Act}
/-- A whole row into the block that was made last, inside a fence. -/
theorem storeNewIn_ (hF : ∀ f, F.fn f) (ty : TypeId) (x y : Operand) (ho : o.op = .store ty x y) (hd : o.dst = none) (hgd : o.guard = none) {w0 : World} {c c' : Array Value} (hx : a.eval x = .pointer (some ⟨w0.heap.size, 0, none⟩)) (hy : a.eval y = .agg c')
    (hi : (P.info? ty).map (·.size) = some c'.size) (hs : c.size = c'.size) (h1 : c'.all (·.oneCell') = true)
    (h : ∀ w', w'.heap[w0.heap.size]? = some (.cells c' ty (0, 0)) → Below w0.heap.size w0 w' → w'.heap.size = w0.heap.size + 1 → wpListIn F n P ops Q rest a w') : wpListIn F n P ops Q (o :: rest) a (w0.alloc (.cells c ty)) :=
  wpListIn_step fun K hK => by
    have hw : Region.wanted o (yielded ops a.tmps) = true := by simp [Region.wanted, hgd]
    rw [if_pos hw]
    refine ⟨fun _ _ => hF _, ?_⟩
    have hrun : (execOp a.eval o).run P (w0.alloc (.cells c ty)) = .ok .skip (w0.alloc (.cells c' ty)) := by
      unfold execOp
      simp only [ho, hx, hy, Instr.storeAt, Instr.sureAddr, Sem.run_bind, Sem.run_pure, Result.andThen_ok, run_storeVar_new w0 ty c c' hi hs h1]
    rw [Oper.semAt_eq _ _ _ (fun c e => by rw [ho] at e; cases e), hrun]
    show K (a.put o.dst undef) _
    rw [hd]
    exact hK _ _ (h _ (blk_new w0 _) ((Below.refl _ _).alloc (Nat.le_refl _) _) (by simp))
end
theorem results_none_ {P : Program} {fn : Func} (h : fn.results = #[]) (tmps : Array Value) (w : World) : (results fn tmps).run P w = .ok (.tuple #[]) w := by
  simp [results, h]
theorem hists_len (L : Int) : ∀ (xs : List S67) (l : Int) (h : List (Int × Int)), h ∈ hists L l xs → h.length = xs.length
  | [], l, h, hm => by simp [hists] at hm; simp [hm]
  | x :: xs, l, h, hm => by
    simp only [hists, List.mem_flatMap] at hm
    obtain ⟨r, _, hm⟩ := hm
    split at hm
    · obtain ⟨h', hm', rfl⟩ := List.mem_map.1 hm
      simp [hists_len L xs _ h' hm']
    · simp at hm

set_option maxHeartbeats 2000000 in
set_option maxRecDepth 100000 in
theorem hist_iter (L st : Int) (A : Option Addr) (c : Nat) (xs : List S67) (bs bm bk bc km lp : Nat) (w : World) (Sb : Nat → Prop) (hL1 : 1 ≤ L) (hL : L ≤ 8) (h0 : 0 ≤ st) (h1 : st < L) (hx : xs.length ≤ 14)
    (hI : IterSt w bs bm bk bc km L st A c xs) (hb : ∀ b, Sb b → b < w.heap.size) (hn : ¬ Sb bs ∧ ¬ Sb bm ∧ ¬ Sb bk ∧ ¬ Sb bc ∧ ¬ Sb km) (hA : ∀ ad, A = some ad → 0 < xs.length → ¬ Sb ad.block) :
    IterAt Try.prog 69 #[.pointer (some ⟨bs, 0, none⟩), .pointer (some ⟨bm, 0, none⟩), .pointer (some ⟨bc, 0, none⟩)] (hencs L st A xs.length c) (hists L st xs) (fun b => b = km ∨ w.heap.size ≤ b) Sb lp w := by
  intro n J Jx hJ hJx hY hJ0
  obtain ⟨es, cl, hkm, _⟩ := hI.memo
  have E : Env0 bs bm bk bc km lp w.heap.size L st A c xs (hists L st xs) Sb J Jx := by
    refine ⟨hJ, hJx, hb, fun ad e h => ?_, ⟨hn.1, hn.2.1, hn.2.2.1, hn.2.2.2.1, hn.2.2.2.2, (Array.getElem?_eq_some_iff.1 hkm).1⟩, hA, fun m pre x W1 h1 h2 => yieldAt_any (hY pre x W1 h1 h2)⟩
    obtain ⟨_, _, h3⟩ := hI.reads
    obtain ⟨ad', e', hh⟩ := h3 h
    rw [e] at e'; cases e'
    obtain ⟨cs, hs, _, hcell⟩ := hh 0 _ (List.getElem?_eq_getElem h)
    have h2 : 0 < cs.length := by rw [hs]; decide
    have := World.block_lt_of_cell? _ _ (hcell 0 _ (List.getElem?_eq_getElem h2))
    rwa [C67_block.add_block] at this
  have hs0 : w.cell? ⟨bs, 0, none⟩ = some (.int .i64 L) := (blk_cell hI.s 0).trans rfl
  have hs1 : w.cell? ⟨bs, 1, none⟩ = some (.int .i64 st) := (blk_cell hI.s 1).trans rfl
  have hs2 : w.cell? ⟨bs, 2, none⟩ = some (.slice A xs.length c) := (blk_cell hI.s 2).trans rfl
  have hlt := blk_lt hI.s
  have hu105 := Try.underlying105
  have hu34 := Try.underlying34
  have hu88 := Try.underlying88
  have HE := Aside0.mk E
  have HI := Aside0.mk hI
  have HJ := Aside0.mk hJ0
  have hJ' := Aside0.mk hJ
  have hY' := Aside0.mk hY
  clear E hI hJ0 hY hJ hJx hkm
  refine callsIn_of_wp Try.func69 rfl trivial ?_ rfl
  simp only [Try.ntmps69, List.size_toArray, List.length_cons, List.length_nil, Nat.reduceAdd, Nat.reduceSub, Array.replicate_succ, Array.replicate_zero, List.push_toArray, List.append_toArray, List.nil_append, List.cons_append]
  gi_wp2_with (first | (refine storeNewIn_ (fun _ => trivial) 88 (.tmp 5) (.tmp 8) rfl rfl rfl (by simp [Act.eval]) rfl (by kernel_rfl) (by kernel_rfl) (by kernel_rfl) ?_; intro w2 hw2 hb2 hz2; have HZ2 := Aside0.mk hz2; clear hz2; have HW2 := Aside0.mk hw2; have HB2 := Aside0.mk hb2; have t0 : w2.cell? ⟨bs, 0, none⟩ = some (.int .i64 L) := (blk_cell (blk_below (blk_alloc HI.out.s _) hb2) 0).trans rfl; have t1 : w2.cell? ⟨bs, 1, none⟩ = some (.int .i64 st) := (blk_cell (blk_below (blk_alloc HI.out.s _) hb2) 1).trans rfl; have t2 : w2.cell? ⟨bs, 2, none⟩ = some (.slice A xs.length c) := (blk_cell (blk_below (blk_alloc HI.out.s _) hb2) 2).trans rfl; have t3 := blk_lt (blk_below (blk_alloc HI.out.s (.cells #[.func (.yield lp) #[] #[]] 120)) hb2); clear hw2 hb2 hs0 hs1 hs2 hlt) |
    (refine gateIn_dst (N := 14) rfl ?_; refine callvIn (fun _ => trivial) rfl Try.func70 (by kernel_rfl) rfl #[.agg #[.int .i64 (0 : Nat), .int .i64 st], .pointer (some ⟨bs, 0, none⟩), .pointer (some ⟨w.heap.size, 0, none⟩), .pointer (some ⟨w.heap.size + 1, 0, none⟩), .pointer (some ⟨bm, 0, none⟩), .pointer (some ⟨bc, 0, none⟩), .pointer (some ⟨w2.heap.size, 0, none⟩)] (by rfl) rfl rfl rfl (by simp [Act.eval]) ?_))
  have hz : w2.heap.size = w.heap.size + 1 + 1 := by have := HZ2.out; simpa using this
  obtain ⟨o3, ho3⟩ : ∃ o3, o3 = Obj.cells #[.func (.func 70) #[] #[.pointer (some ⟨bs, 0, none⟩), .pointer (some ⟨w.heap.size, 0, none⟩), .pointer (some ⟨w.heap.size + 1, 0, none⟩), .pointer (some ⟨bm, 0, none⟩), .pointer (some ⟨bc, 0, none⟩), .pointer (some ⟨w2.heap.size, 0, none⟩)]] 118 (0, 0) := ⟨_, rfl⟩
  rw [← ho3]
  have hb3 : Below w.heap.size w (w2.alloc o3) := (((Below.refl _ w).alloc (Nat.le_refl _) _).trans (HB2.out.mono (by simp))).alloc (by omega) _
  have hF : FSt (w2.alloc o3) bs bm bk bc km w.heap.size (w.heap.size + 1) w2.heap.size lp L st A c xs [] := by
    refine ⟨HI.out.same hb3, ?_, ?_, ?_⟩
    · refine ⟨List.replicate 14 0, List.replicate 14 0, ?_, by simp, by simp, by simp, by simp, List.drop_replicate .., List.drop_replicate ..⟩
      have := blk_alloc HW2.out o3
      simpa using this
    · exact blk_alloc (blk_below (blk_new w _) HB2.out) o3
    · rw [ho3]; exact blk_new w2 _
  have hJ3 : J [] (w2.alloc o3) := hJ'.out _ _ _ HJ.out (.of_below hb3)
  refine (further_calls bs bm bk bc km w.heap.size (w.heap.size + 1) w2.heap.size lp w.heap.size L st A c xs (hists L st xs) Sb J Jx HE.out hL1 hL hx (Nat.le_refl _) (by omega) (by omega) ⟨by omega, by omega⟩ xs.length 0 (by omega)
    (n - 1) st [] [] (w2.alloc o3) h0 h1 rfl (by simp; omega) hF hJ3 (by simp)).mono ?_
  rintro e w4 (⟨rfl, _, hJ4, _⟩ | ⟨rfl, pre', hp', hx'⟩)
  · refine ⟨_, rfl, ?_⟩
    gi_wp2_with fail
    refine bodyPost_end (results_none_ rfl _ _) rfl ⟨⟨_, rfl⟩, .inl ?_⟩
    simpa using hJ4
  · refine ⟨_, rfl, ?_⟩
    gi_wp2_with fail
    exact bodyPost_end (results_none_ rfl _ _) rfl ⟨⟨_, rfl⟩, .inr ⟨pre', hp', hx'⟩⟩
end Go.Proofs.Ytkglggggmlnleaa.Print
