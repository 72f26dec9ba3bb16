/- The span of a rank. -/
import Derived.Test.YtkglggggmlnleaaEn
namespace Go.Proofs.Ytkglggggmlnleaa.Print
open Go.RowKit Go.Proofs.YtkglggggmlnleaaW.PrintWords Go.Proofs.YtkglggggmlnleaaW.PrintLast Go.Proofs.YtkglggggmlnleaaW.PrintMore
set_option linter.unusedVariables false
set_option linter.unusedSimpArgs false

section
variable {P : Program} {ops : Array Oper} {Q : Exit → Act → World → Prop} {o : Oper} {rest : List Oper} {a : Act}
/-- A whole row into the block that was made last. -/
theorem storeNewL_ (ty : TypeId) (x y : Operand) (ho : o.op = .store ty x y) (hd : o.dst = none) (hgd : o.guard = none) {w0 : World} {c c' : Array Value} (hx : a.eval x = .pointer (some ⟨w0.heap.size, 0, none⟩)) (hy : a.eval y = .agg c')
    (hi : (P.info? ty).map (·.size) = some c'.size) (hs : c.size = c'.size) (h1 : c'.all (·.oneCell') = true)
    (h : ∀ w', w'.heap[w0.heap.size]? = some (.cells c' ty (0, 0)) → Below w0.heap.size w0 w' → w'.heap.size = w0.heap.size + 1 → wpList P ops Q rest a w') : wpList P ops Q (o :: rest) a (w0.alloc (.cells c ty)) := by
  refine wpList_plain hgd fun K hK => ?_
  unfold Oper.wp
  have hrun : (execOp a.eval o).run P (w0.alloc (.cells c ty)) = .ok .skip (w0.alloc (.cells c' ty)) := by
    unfold execOp
    simp only [ho, hx, hy, Instr.storeAt, Instr.sureAddr, Sem.run_bind, Sem.run_pure, Result.andThen_ok, run_storeVar_new w0 ty c c' hi hs h1]
  rw [hrun]
  show K (a.put o.dst undef) _
  rw [hd]
  exact hK _ _ (h _ (blk_new w0 _) ((Below.refl _ _).alloc (Nat.le_refl _) _) (by simp))
end
/-- The error of a staircase with a rank. -/
def askE (L st : Int) (l : List S67) (k : Int) : Int := if possI L st l = 0 then (if 0 ≤ k ∧ k < l.length then 0 else 2) else possI L st l
theorem askE_ok {L st : Int} {l : List S67} {k : Int} (h : askE L st l k = 0) : possI L st l = 0 ∧ 0 ≤ k ∧ k < l.length := by
  unfold askE at h
  split at h
  · rename_i h1
    split at h
    · rename_i h2; exact ⟨h1, h2⟩
    · cases h
  · rename_i h1; exact absurd h h1
set_option maxHeartbeats 2000000 in
set_option maxRecDepth 100000 in
theorem asked_calls (L st : Int) (A : Option Addr) (c : Nat) (l : List S67) (k : Int) (w : World) (hr : Kd.C k67 w A l.length l) (hc : l.length ≤ c) :
    Calls Try.prog 51 #[.agg #[.int .i64 L, .int .i64 st, .slice A l.length c], .int .i64 k] w fun e w' => e = .returned (.int .i64 (askE L st l k)) ∧ Below w.heap.size w w' := by
  have hu34 := Try.underlying34
  have hmx := Kd.C_max hr
  have HB1 : Aside0 (Below w.heap.size w (w.alloc (.cells #[.int .i64 L, .int .i64 st, .slice A l.length c] 34))) := ⟨(Below.refl _ w).alloc (by simp) _⟩
  have HR := Aside0.mk (Kd.C_below hr HB1.out)
  have HC := Aside0.mk hc
  clear hr hc
  go_enter Try.func51, Try.ntmps51
  go_wp2_with fail
  refine (possible_calls L st A c l _ HR.out HC.out).mono ?_
  rintro e w2 ⟨rfl, hb2⟩
  have HB2 := Aside0.mk (HB1.out.trans (hb2.mono HB1.out.size))
  have HX2 := Aside0.mk (blk_below (blk_new w (.cells #[.int .i64 L, .int .i64 st, .slice A l.length c] 34)) hb2)
  have q2 : w2.cell? ⟨w.heap.size, 2, none⟩ = some (.slice A l.length c) := (blk_cell HX2.out 2).trans rfl
  clear hb2
  obtain ⟨ck, hck⟩ : ∃ ck, possI L st l = ck := ⟨_, rfl⟩
  rw [hck]
  have HCK := Aside0.mk hck
  clear hck
  by_cases h0 : ck = 0
  · subst h0
    have e1 : wrap64 ((l.length : Int) - 1) = (l.length : Int) - 1 := by unfold wrap64; omega
    by_cases hk0 : 0 ≤ k
    · by_cases hk1 : k < l.length
      · have hw : stair_within.f k 0 ((l.length : Int) - 1) = some true := by
          unfold stair_within.f
          rw [if_pos hk0]
          simp; omega
        have HW := Aside0.mk hw
        have HE : Aside0 (askE L st l k = 0) := ⟨by unfold askE; rw [HCK.out, if_pos rfl, if_pos ⟨hk0, hk1⟩]⟩
        clear hw
        go_wp2_with (go_at_call 64; refine (stair_within.calls k 0 _ true _ HW.out).mono ?_; rintro e w' ⟨rfl, ⟨nd, rfl⟩⟩)
        first | rw [Exit.noGoto_ret] | skip
        go_ret
        exact ⟨by rw [HE.out]; rfl, pw_below_drewN HB2.out _⟩
      · have hw : stair_within.f k 0 ((l.length : Int) - 1) = some false := by
          unfold stair_within.f
          rw [if_pos hk0]
          simp; omega
        have HW := Aside0.mk hw
        have HE : Aside0 (askE L st l k = 2) := ⟨by unfold askE; rw [HCK.out, if_pos rfl, if_neg (by omega)]⟩
        clear hw
        go_wp2_with (go_at_call 64; refine (stair_within.calls k 0 _ false _ HW.out).mono ?_; rintro e w' ⟨rfl, ⟨nd, rfl⟩⟩)
        first | rw [Exit.noGoto_ret] | skip
        go_ret
        exact ⟨by rw [HE.out]; rfl, pw_below_drewN HB2.out _⟩
    · have hw : stair_within.f k 0 ((l.length : Int) - 1) = some false := by
        unfold stair_within.f
        rw [if_neg hk0]
      have HW := Aside0.mk hw
      have HE : Aside0 (askE L st l k = 2) := ⟨by unfold askE; rw [HCK.out, if_pos rfl, if_neg (by omega)]⟩
      clear hw
      go_wp2_with (go_at_call 64; refine (stair_within.calls k 0 _ false _ HW.out).mono ?_; rintro e w' ⟨rfl, ⟨nd, rfl⟩⟩)
      first | rw [Exit.noGoto_ret] | skip
      go_ret
      exact ⟨by rw [HE.out]; rfl, pw_below_drewN HB2.out _⟩
  · have h0b : (ck == 0) = false := beq_eq_false_iff_ne.2 h0
    have h0c : (ck != 0) = true := bne_iff_ne.2 h0
    have HE : Aside0 (askE L st l k = ck) := ⟨by unfold askE; rw [HCK.out, if_neg h0]⟩
    go_wp2_with fail
    first | rw [Exit.noGoto_ret] | skip
    go_ret
    exact ⟨by rw [HE.out]; rfl, HB2.out⟩
/-- The end of a rank's span. -/
def endN (L st : Int) (l : List S67) (k : Int) (high : Bool) : Int :=
  match bestOf L high k (hists L st l) with
  | some b => keyOf L high k b
  | none => 0
def rankR (L st : Int) (l : List S67) (k : Int) : Int × Int := if askE L st l k = 0 then (endN L st l k false, endN L st l k true) else (0, 0)
set_option maxHeartbeats 2000000 in
set_option maxRecDepth 100000 in
theorem rank_calls (L st : Int) (A : Option Addr) (c : Nat) (l : List S67) (k : Int) (w : World) (hr : Kd.C k67 w A l.length l) (hc : l.length ≤ c) :
    Calls Try.prog 25 #[.agg #[.int .i64 L, .int .i64 st, .slice A l.length c], .int .i64 k] w fun e w' => e = .returned (.tuple #[.agg #[.int .i64 (rankR L st l k).1, .int .i64 (rankR L st l k).2], .int .i64 (askE L st l k)]) ∧ Below w.heap.size w w' := by
  have hu34 := Try.underlying34
  have hu28 := Try.underlying28
  have HB1 : Aside0 (Below w.heap.size w ((w.alloc (.cells #[.int .i64 L, .int .i64 st, .slice A l.length c] 34)).alloc (.cells #[.int .i64 0, .int .i64 0] 28))) := ⟨((Below.refl _ w).alloc (by simp) _).alloc (by simp) _⟩
  have HBX : Aside0 (((w.alloc (.cells #[.int .i64 L, .int .i64 st, .slice A l.length c] 34)).alloc (.cells #[.int .i64 0, .int .i64 0] 28)).heap[w.heap.size]? = some (.cells #[.int .i64 L, .int .i64 st, .slice A l.length c] 34 (0, 0))) := ⟨blk_alloc (new_at rfl) _⟩
  have HBY : Aside0 (((w.alloc (.cells #[.int .i64 L, .int .i64 st, .slice A l.length c] 34)).alloc (.cells #[.int .i64 0, .int .i64 0] 28)).heap[w.heap.size + 1]? = some (.cells #[.int .i64 0, .int .i64 0] 28 (0, 0))) := ⟨new_at (by simp)⟩
  have HR := Aside0.mk hr
  have HC := Aside0.mk hc
  clear hr hc
  go_enter Try.func25, Try.ntmps25
  go_wp2_with fail
  refine (asked_calls L st A c l k _ (Kd.C_below HR.out HB1.out) HC.out).mono ?_
  rintro e w2 ⟨rfl, hb2⟩
  have HB2 := Aside0.mk (HB1.out.trans (hb2.mono HB1.out.size))
  have HBX2 := Aside0.mk (blk_below HBX.out hb2)
  have HBY2 := Aside0.mk (blk_below HBY.out hb2)
  clear hb2 HB1 HBX HBY
  have q0 : w2.cell? ⟨w.heap.size, 0, none⟩ = some (.int .i64 L) := (blk_cell HBX2.out 0).trans rfl
  have q1 : w2.cell? ⟨w.heap.size, 1, none⟩ = some (.int .i64 st) := (blk_cell HBX2.out 1).trans rfl
  have q2 : w2.cell? ⟨w.heap.size, 2, none⟩ = some (.slice A l.length c) := (blk_cell HBX2.out 2).trans rfl
  have q3 : w2.cell? ⟨w.heap.size + 1, 0, none⟩ = some (.int .i64 0) := (blk_cell HBY2.out 0).trans rfl
  have q3b : w2.cell? ⟨w.heap.size + 1, 1, none⟩ = some (.int .i64 0) := (blk_cell HBY2.out 1).trans rfl
  have q4 := blk_frozen HBY2.out 0
  have q5 := blk_frozen HBY2.out 1
  obtain ⟨ck, hck⟩ : ∃ ck, askE L st l k = ck := ⟨_, rfl⟩
  rw [hck]
  have HCK := Aside0.mk hck
  clear hck
  by_cases h0 : ck = 0
  · subst h0
    obtain ⟨hpo, hk0, hk1⟩ := askE_ok HCK.out
    obtain ⟨hco, hne⟩ := poss_ok hpo
    go_wp2_with fail
    refine (end_calls L st A c l k false _ (Kd.C_below HR.out HB2.out) HC.out hco hne hk0 hk1).mono ?_
    rintro e w3 ⟨b, hb, rfl, hb3⟩
    have HB3 := Aside0.mk (HB2.out.trans (hb3.mono HB2.out.size))
    have HBX3 := Aside0.mk (blk_below HBX2.out hb3)
    have HBY3 := Aside0.mk (blk_below HBY2.out hb3)
    have hbl : b.length = l.length := hists_len L l st b (bestOf_mem L false k _ b hb)
    have hkk := (check_ok hco).2.2.2.2
    have e1 : endN L st l k false = keyOf L false k b := by unfold endN; rw [hb]
    obtain ⟨v, hv⟩ : ∃ v, hval L st A l.length c b = v := ⟨_, rfl⟩
    rw [hv, ← e1]
    have HV := Aside0.mk hv
    clear hb3 hb hv e1 q0 q1 q2 q3 q3b q4 q5 HB2 HBX2 HBY2
    have HSZ := Aside0.mk (hcells_len L st A l.length c b (by omega))
    go_wp2_with (refine storeNewL_ 88 (.tmp 7) (.tmp 22) rfl rfl rfl (by simp [Act.eval]) (by rw [← HV.out]; rfl) (by rw [size88]; simp [HSZ.out]) (by simp [HSZ.out]) (hcells_one ..) ?_; intro w5 hw5 hb5 hz5; have HB5 := Aside0.mk (HB3.out.trans (hb5.mono HB3.out.size)); have HBX5 := Aside0.mk (blk_below HBX3.out hb5); have HBY5 := Aside0.mk (blk_below HBY3.out hb5); have q0 : w5.cell? ⟨w.heap.size, 0, none⟩ = some (.int .i64 L) := (blk_cell HBX5.out 0).trans rfl; have q1 : w5.cell? ⟨w.heap.size, 1, none⟩ = some (.int .i64 st) := (blk_cell HBX5.out 1).trans rfl; have q2 : w5.cell? ⟨w.heap.size, 2, none⟩ = some (.slice A l.length c) := (blk_cell HBX5.out 2).trans rfl; clear hw5 hb5 hz5)
    refine (end_calls L st A c l k true _ (Kd.C_below HR.out HB5.out) HC.out hco hne hk0 hk1).mono ?_
    rintro e w6 ⟨b2, hb2, rfl, hb6⟩
    have HB6 := Aside0.mk (HB5.out.trans (hb6.mono HB5.out.size))
    have HBY6 := Aside0.mk (blk_below HBY5.out hb6)
    have hbl2 : b2.length = l.length := hists_len L l st b2 (bestOf_mem L true k _ b2 hb2)
    have e2 : endN L st l k true = keyOf L true k b2 := by unfold endN; rw [hb2]
    obtain ⟨v2, hv2⟩ : ∃ v2, hval L st A l.length c b2 = v2 := ⟨_, rfl⟩
    rw [hv2, ← e2]
    have HV2 := Aside0.mk hv2
    clear hb6 hb2 hv2 e2 q0 q1 q2
    have HSZ2 := Aside0.mk (hcells_len L st A l.length c b2 (by omega))
    obtain ⟨lo, hlo⟩ : ∃ lo, endN L st l k false = lo := ⟨_, rfl⟩
    obtain ⟨hi, hhi⟩ : ∃ hi, endN L st l k true = hi := ⟨_, rfl⟩
    rw [hlo, hhi]
    have HLO := Aside0.mk (And.intro hlo hhi)
    clear hlo hhi
    go_wp2_with (refine storeNewL_ 88 (.tmp 9) (.tmp 28) rfl rfl rfl (by simp [Act.eval]) (by rw [← HV2.out]; rfl) (by rw [size88]; simp [HSZ2.out]) (by simp [HSZ2.out]) (hcells_one ..) ?_; intro w8 hw8 hb8 hz8; have HB8 := Aside0.mk (HB6.out.trans (hb8.mono HB6.out.size)); have HBY8 := Aside0.mk (blk_below HBY6.out hb8); have q3 : w8.cell? ⟨w.heap.size + 1, 0, none⟩ = some (.int .i64 0) := (blk_cell HBY8.out 0).trans rfl; have q3b : w8.cell? ⟨w.heap.size + 1, 1, none⟩ = some (.int .i64 0) := (blk_cell HBY8.out 1).trans rfl; have q4 := blk_frozen HBY8.out 0; have q5 := blk_frozen HBY8.out 1; clear hw8 hb8 hz8)
    have hrow := blk_put (cs := #[.int .i64 lo, .int .i64 0]) (blk_put HBY8.out 0 (.int .i64 lo) rfl) 1 (.int .i64 hi) rfl
    have hc5 := (blk_cell hrow 0).trans rfl
    have hc6 := (blk_cell hrow 1).trans rfl
    have hp : rankR L st l k = (lo, hi) := by unfold rankR; rw [HCK.out, if_pos rfl]; exact Prod.ext HLO.out.1 HLO.out.2
    refine bodyPost_ret (v := .tuple #[.agg #[.int .i64 lo, .int .i64 hi], .int .i64 0]) (by simp [results, Try.f25, go_sem, hc5, hc6]) rfl ⟨by rw [hp, HCK.out], ?_⟩
    exact below_set (below_set HB8.out (by simp)) (by simp)
  · have h0b : (ck == 0) = false := beq_eq_false_iff_ne.2 h0
    have h0c : (ck != 0) = true := bne_iff_ne.2 h0
    have hp : rankR L st l k = (0, 0) := by unfold rankR; rw [HCK.out, if_neg h0]
    go_wp2_with fail
    have hrow := blk_put (cs := #[.int .i64 0, .int .i64 0]) (blk_put HBY2.out 0 (.int .i64 0) rfl) 1 (.int .i64 0) rfl
    have hc5 := (blk_cell hrow 0).trans rfl
    have hc6 := (blk_cell hrow 1).trans rfl
    refine bodyPost_ret (v := .tuple #[.agg #[.int .i64 0, .int .i64 0], .int .i64 ck]) (by simp [results, Try.f25, go_sem, hc5, hc6]) rfl ⟨by rw [hp, HCK.out], ?_⟩
    exact below_set (below_set HB2.out (by simp)) (by simp)
end Go.Proofs.Ytkglggggmlnleaa.Print
