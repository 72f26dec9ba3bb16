/- The history in which a rank's limit is least, or greatest. -/
import Derived.Test.YtkglggggmlnleaaSo
import Derived.Laws.CopyRow
namespace Go.Proofs.Ytkglggggmlnleaa.Print
open Go.RowKit Go.Shelf Go.Proofs.YtkglggggmlnleaaW.PrintWords Go.Proofs.YtkglggggmlnleaaW.PrintLast Go.Proofs.YtkglggggmlnleaaW.PrintMore
set_option linter.unusedVariables false
set_option linter.unusedSimpArgs false
attribute [local go_sem] Oper.semAt_some
def f52.T4 : Bool × List (List Nat × List Nat) := (true, [([], []), ([], []), ([0, 1], [0, 1]), ([], []), ([2, 3, 2], [2, 3]), ([4, 4, 0, 1, 2, 3, 4], [4])])
def f52.B4 : List Nat := [0, 0, 3, 0, 15, 31]
theorem f52.tab4 : rtab .any (opsOf Try.f52 4) = f52.T4 := by kernel_rfl
theorem f52.bits4 : waitsOk f52.T4.2 f52.B4 = true := by kernel_rfl
def f52.T7 : Bool × List (List Nat × List Nat) := (true, [([], []), ([], []), ([0, 0], [0]), ([1, 2, 0, 1, 2], [1])])
def f52.B7 : List Nat := [0, 0, 1, 7]
theorem f52.tab7 : rtab .any (opsOf Try.f52 7) = f52.T7 := by kernel_rfl
theorem f52.bits7 : waitsOk f52.T7.2 f52.B7 = true := by kernel_rfl
section
variable {P : Program} {ops : Array Oper} {Q : Exit → Act → World → Prop} {n : Nat} {F : Fence} {o : Oper} {rest : List Oper} {a : Act}
theorem run_loadRow {W : World} (ty : TypeId) (x : Operand) (ho : o.op = .load ty x) (g : Nat) (hx : a.eval x = .pointer (some ⟨g, 0, none⟩)) (t : TypeId) (cs : Array Value) (fr : Nat × Nat) (d : TypeDesc) (hg : W.heap[g]? = some (.cells cs t fr))
    (hu : P.underlying ty = some d) (hd : (match d with | .struct _ | .array _ _ => true | _ => false) = true) (hi : (P.info? ty).map (·.size) = some cs.size) : (execOp a.eval o).run P W = .ok (.value (.agg cs)) W := by
  unfold execOp
  simp only [ho, hx, Instr.loadAt, Instr.sureAddr, Sem.run_bind, Sem.run_pure, Result.andThen_ok, run_loadVar_row W g t ty cs fr d hg hu hd hi]
theorem setRow_ch (w : World) (g : Nat) (cs : Array Value) : Ch (· = g) w (w.setRow g cs) :=
  ⟨rfl, rfl, rfl, by simp, fun i _ hn => setRow_other w g i cs hn⟩
theorem run_storeRow {W : World} (ty : TypeId) (x y : Operand) (ho : o.op = .store ty x y) (g : Nat) {old c' : Array Value} (hx : a.eval x = .pointer (some ⟨g, 0, none⟩)) (hy : a.eval y = .agg c') (hg : W.heap[g]? = some (.cells old ty (0, 0)))
    (hi : (P.info? ty).map (·.size) = some c'.size) (hs : old.size = c'.size) (h1 : c'.all (·.oneCell') = true) : (execOp a.eval o).run P W = .ok .skip (W.setRow g c') := by
  unfold execOp
  simp only [ho, hx, hy, Instr.storeAt, Instr.sureAddr, Sem.run_bind, Sem.run_pure, Result.andThen_ok, run_storeVar_row W g ty ty old c' hg hi hs h1]
/-- A whole row into a block that lies there, inside a fence. -/
theorem storeRowIn_ (hF : ∀ f, F.fn f) {W : World} (ty : TypeId) (x y : Operand) (ho : o.op = .store ty x y) (hd : o.dst = none) (hgd : o.guard = none) (g : Nat) {old c' : Array Value} (hx : a.eval x = .pointer (some ⟨g, 0, none⟩)) (hy : a.eval y = .agg c') (hg : W.heap[g]? = some (.cells old ty (0, 0)))
    (hi : (P.info? ty).map (·.size) = some c'.size) (hs : old.size = c'.size) (h1 : c'.all (·.oneCell') = true)
    (h : ∀ w', w'.heap[g]? = some (.cells c' ty (0, 0)) → Ch (· = g) W w' → wpListIn F n P ops Q rest a w') : wpListIn F n P ops Q (o :: rest) a W :=
  wpListIn_step fun K hK => by
    have hw : Region.wanted o (yielded ops a.tmps) = true := by simp [Region.wanted, hgd]
    rw [if_pos hw]
    refine ⟨fun _ _ => hF _, ?_⟩
    rw [Oper.semAt_eq _ _ _ (fun c e => by rw [ho] at e; cases e), run_storeRow ty x y ho g hx hy hg hi hs h1]
    show K (a.put o.dst undef) _
    rw [hd]
    exact hK _ _ (h _ (setRow_heap W g old c' ty (0, 0) hg) (setRow_ch W g c'))
end
/-- The limit of a rank, in a history. -/
def keyOf (L : Int) (high : Bool) (rank : Int) (h : List (Int × Int)) : Int := (rising (h.map (limit L high))).getD rank.toNat 0
def better (high : Bool) (n m : Int) : Bool := if high then decide (m < n) else decide (n < m)
def bestStep (L : Int) (high : Bool) (rank : Int) (o : Option (List (Int × Int))) (h : List (Int × Int)) : Option (List (Int × Int)) :=
  match o with
  | none => some h
  | some b => if better high (keyOf L high rank h) (keyOf L high rank b) then some h else some b
def bestOf (L : Int) (high : Bool) (rank : Int) (hs : List (List (Int × Int))) : Option (List (Int × Int)) := hs.foldl (bestStep L high rank) none
theorem bestOf_snoc (L : Int) (high : Bool) (rank : Int) (hs : List (List (Int × Int))) (h : List (Int × Int)) : bestOf L high rank (hs ++ [h]) = bestStep L high rank (bestOf L high rank hs) h := by
  simp [bestOf, List.foldl_append]
theorem bestOf_mem (L : Int) (high : Bool) (rank : Int) (hs : List (List (Int × Int))) : ∀ b, bestOf L high rank hs = some b → b ∈ hs := by
  suffices ∀ (l : List (List (Int × Int))) (o : Option (List (Int × Int))) (b : List (Int × Int)), l.foldl (bestStep L high rank) o = some b → b ∈ l ∨ o = some b from fun b hb => (this hs none b hb).elim id (fun e => by cases e)
  intro l
  induction l with
  | nil => intro o b h; exact .inr h
  | cons x l ih =>
    intro o b h
    rcases ih _ _ h with h | h
    · exact .inl (List.mem_cons_of_mem _ h)
    · unfold bestStep at h
      cases o with
      | none => simp at h; exact .inl (by simp [h])
      | some c =>
        simp only at h
        split at h
        · simp at h; exact .inl (by simp [h])
        · exact .inr h
theorem bestOf_some (L : Int) (high : Bool) (rank : Int) : ∀ (hs : List (List (Int × Int))), hs ≠ [] → ∃ b, bestOf L high rank hs = some b := by
  suffices ∀ (l : List (List (Int × Int))) (c : List (Int × Int)), ∃ b, l.foldl (bestStep L high rank) (some c) = some b from fun hs hn => by
    cases hs with
    | nil => exact absurd rfl hn
    | cons x l => exact this l x
  intro l
  induction l with
  | nil => intro c; exact ⟨c, rfl⟩
  | cons x l ih =>
    intro c
    simp only [List.foldl_cons]
    have : ∃ d, bestStep L high rank (some c) x = some d := by
      by_cases hb : better high (keyOf L high rank x) (keyOf L high rank c) = true
      · exact ⟨x, by simp [bestStep, hb]⟩
      · exact ⟨c, by simp [bestStep, hb]⟩
    obtain ⟨d, hd⟩ := this
    rw [hd]
    exact ih d
/-- What the variables best, limit and found hold. -/
def EndR (L st : Int) (A : Option Addr) (n c : Nat) (high : Bool) (rank : Int) (b6 : Nat) (o : Option (List (Int × Int))) (W : World) : Prop :=
  match o with
  | none => Row31 W b6 ∧ W.heap[b6 + 1]? = some (.cells #[.int .i64 0] 3 (0, 0)) ∧ W.heap[b6 + 1 + 1]? = some (.cells #[.bool false] 4 (0, 0))
  | some b => W.heap[b6]? = some (.cells (hcells L st A n c b).toArray 88 (0, 0)) ∧ W.heap[b6 + 1]? = some (.cells #[.int .i64 (keyOf L high rank b)] 3 (0, 0)) ∧ W.heap[b6 + 1 + 1]? = some (.cells #[.bool true] 4 (0, 0))
theorem EndR.kept {L st : Int} {A : Option Addr} {n c : Nat} {high : Bool} {rank : Int} {b6 : Nat} {o : Option (List (Int × Int))} {W W' : World} (h : EndR L st A n c high rank b6 o W) (hk : ∀ b, b ≤ b6 + 1 + 1 → b6 ≤ b → W'.heap[b]? = W.heap[b]?) : EndR L st A n c high rank b6 o W' := by
  unfold EndR at *
  cases o with
  | none =>
    obtain ⟨⟨cs, h1, h1'⟩, h2, h3⟩ := h
    exact ⟨⟨cs, (hk _ (by omega) (by omega)).trans h1, h1'⟩, (hk _ (by omega) (by omega)).trans h2, (hk _ (by omega) (by omega)).trans h3⟩
  | some b =>
    obtain ⟨h1, h2, h3⟩ := h
    exact ⟨(hk _ (by omega) (by omega)).trans h1, (hk _ (by omega) (by omega)).trans h2, (hk _ (by omega) (by omega)).trans h3⟩

theorem results_rc {P : Program} {fn : Func} {p q : Tmp} {ty tq : TypeId} (h : fn.results = #[.cell p ty, .cell q tq]) (tmps : Array Value) (w : World) (g g2 : Nat) (t : TypeId) (cs : Array Value) (fr : Nat × Nat) (d : TypeDesc) (v2 : Value)
    (hp : tmps.getD p undef = .pointer (some ⟨g, 0, none⟩)) (hg : w.heap[g]? = some (.cells cs t fr))
    (hu : P.underlying ty = some d) (hd : (match d with | .struct _ | .array _ _ => true | _ => false) = true) (hi : (P.info? ty).map (·.size) = some cs.size)
    (hq : tmps.getD q undef = .pointer (some ⟨g2, 0, none⟩)) (hv : (loadVar tq ⟨g2, 0, none⟩).run P w = .ok v2 w) :
    (results fn tmps).run P w = .ok (.tuple #[.agg cs, v2]) w := by
  have hp' : tmps[p]?.getD undef = .pointer (some ⟨g, 0, none⟩) := by simpa using hp
  have hq' : tmps[q]?.getD undef = .pointer (some ⟨g2, 0, none⟩) := by simpa using hq
  simp [results, h, hp', hq', asAddr, run_loadVar_row w g t ty cs fr d hg hu hd hi, hv]
set_option maxHeartbeats 4000000 in
set_option maxRecDepth 100000 in
theorem end_calls (L st : Int) (A : Option Addr) (c : Nat) (l : List S67) (rank : Int) (high : Bool) (w : World) (hr : Kd.C k67 w A l.length l) (hc : l.length ≤ c) (hck : checkI L st l = 0) (hne : hists L st l ≠ []) (hr0 : 0 ≤ rank) (hr1 : rank < l.length) :
    Calls Try.prog 52 #[.agg #[.int .i64 L, .int .i64 st, .slice A l.length c], .int .i64 rank, .bool high] w fun e w' => ∃ b, bestOf L high rank (hists L st l) = some b ∧ e = .returned (.tuple #[hval L st A l.length c b, .int .i64 (keyOf L high rank b)]) ∧ Below w.heap.size w w' := by
  have hu34 := Try.underlying34
  have hu88 := Try.underlying88
  have HR := Aside0.mk hr
  have HC := Aside0.mk hc
  clear hr hc
  obtain ⟨k1, k2, k3, k4, k5⟩ := check_ok hck
  refine (callsIn_wide (n := 0)).1 ?_
  refine callsIn_of_wp_marks Try.func52 rfl trivial ?_ rfl
  simp only [Try.ntmps52, List.size_toArray, List.length_cons, List.length_nil, Nat.reduceAdd, Nat.reduceSub, Array.replicate_succ, Array.replicate_zero, List.push_toArray, List.append_toArray, List.nil_append, List.cons_append]
  gi_wp2_with fail
  refine ⟨trivial, rfl, ?_⟩
  obtain ⟨w1, hw1⟩ : ∃ w1, ((((((w.alloc (.cells #[.int .i64 L, .int .i64 st, .slice A l.length c] 34)).alloc (.cells #[.int .i64 rank] 3)).alloc (.cells #[.bool high] 4)).alloc (.cells #[.int .i64 0, .int .i64 0, .slice none 0 0, .int .u8 0, .int .u8 0, .int .u8 0, .int .u8 0, .int .u8 0, .int .u8 0, .int .u8 0, .int .u8 0, .int .u8 0, .int .u8 0, .int .u8 0, .int .u8 0, .int .u8 0, .int .u8 0, .int .i64 0, .int .i64 0, .int .i64 0, .int .i64 0, .int .i64 0, .int .i64 0, .int .i64 0, .int .i64 0, .int .i64 0, .int .i64 0, .int .i64 0, .int .i64 0, .int .i64 0, .int .i64 0] 88)).alloc (.cells #[.int .i64 0] 3)).alloc (.cells #[.bool false] 4)) = w1 := ⟨_, rfl⟩
  rw [hw1]
  have HB1 : Aside0 (Below w.heap.size w w1) := ⟨by rw [← hw1]; exact (((((((Below.refl _ w).alloc (by simp) _).alloc (by simp) _).alloc (by simp; try omega) _).alloc (by simp; try omega) _).alloc (by simp; try omega) _).alloc (by simp; try omega) _)⟩
  have hz1 : w1.heap.size = w.heap.size + 6 := by rw [← hw1]; simp
  have HX4 : Aside0 (w1.heap[w.heap.size + 1]? = some (.cells #[.int .i64 rank] 3 (0, 0))) := ⟨by rw [← hw1]; exact blk_alloc (blk_alloc (blk_alloc (blk_alloc (new_at (by simp)) _) _) _) _⟩
  have HX5 : Aside0 (w1.heap[w.heap.size + 1 + 1]? = some (.cells #[.bool high] 4 (0, 0))) := ⟨by rw [← hw1]; exact blk_alloc (blk_alloc (blk_alloc (new_at (by simp)) _) _) _⟩
  have HX6 : Aside0 (Row31 w1 (w.heap.size + 1 + 1 + 1)) := ⟨by rw [← hw1]; exact ⟨_, blk_alloc (blk_alloc (new_at (by simp)) _) _, rfl⟩⟩
  have HX7 : Aside0 (w1.heap[w.heap.size + 1 + 1 + 1 + 1]? = some (.cells #[.int .i64 0] 3 (0, 0))) := ⟨by rw [← hw1]; exact blk_alloc (new_at (by simp)) _⟩
  have HX8 : Aside0 (w1.heap[w.heap.size + 1 + 1 + 1 + 1 + 1]? = some (.cells #[.bool false] 4 (0, 0))) := ⟨by rw [← hw1]; exact new_at (by simp)⟩
  clear hw1
  refine (callsIn_wide.2 (histories_calls L st A c l _ (Kd.C_below HR.out HB1.out) HC.out)).mono ?_
  rintro e w3 ⟨bs, bm, bk, bc, km, rfl, hI, hb3, hg1, hg2, hg3, hg4, hg5⟩
  gi_wp2_with fail
  have HI := Aside0.mk hI
  have HX4' := Aside0.mk (blk_below HX4.out hb3)
  have HX5' := Aside0.mk (blk_below HX5.out hb3)
  have HE0 : Aside0 (EndR L st A l.length c high rank (w.heap.size + 1 + 1 + 1) none w3) := ⟨⟨by obtain ⟨cs, h1, h2⟩ := HX6.out; exact ⟨cs, blk_below h1 hb3, h2⟩, blk_below HX7.out hb3, blk_below HX8.out hb3⟩⟩
  have HB3 := Aside0.mk (HB1.out.trans (hb3.mono HB1.out.size))
  have hlt3 : w.heap.size + 1 + 1 + 1 + 1 + 1 < w3.heap.size := by have := hb3.size; omega
  rw [hz1] at hg1 hg2 hg3 hg4 hg5
  clear hI hb3 HX4 HX5 HX6 HX7 HX8
  have hAd : ∀ ad, A = some ad → 0 < l.length → ad.block < w.heap.size := fun ad e h => C67_lt HR.out e h
  have HMEM : Aside0 (∀ (pre : List (List (Int × Int))) (x : List (Int × Int)), pre ++ [x] <+: hists L st l → ∀ p ∈ x, 0 ≤ p.2 ∧ p.2 ≤ 8) :=
    ⟨fun pre x h p hp => by
      have := hists_mem L l st x k3 k4 (h.subset (by simp)) p hp
      exact ⟨this.2.1, by omega⟩⟩
  refine wpIn_hist L st A c l bs bm bk bc km rfl k1 k2 k3 k4 k5 HI.out (fun b => b = w.heap.size + 1 + 1 + 1 ∨ b = w.heap.size + 1 + 1 + 1 + 1 ∨ b = w.heap.size + 1 + 1 + 1 + 1 + 1) (by rintro b (rfl | rfl | rfl) <;> exact ⟨by omega, by omega, by omega, by omega, by omega, by omega, fun ad e h => by have := hAd ad e h; omega⟩)
    (fun pre W => EndR L st A l.length c high rank (w.heap.size + 1 + 1 + 1) (bestOf L high rank pre) W) (fun k pre W => False)
    (fun pre W W' hr hk => hr.kept (fun b h1 h2 => hk _ (by omega) (by omega))) (fun k pre W W' hr hk => hr) HE0.out
    (fun x a' W => ∃ bx, a' = { tmps := #[.agg #[.int .i64 L, .int .i64 st, .slice A l.length c], .int .i64 rank, .bool high, .pointer (some ⟨w.heap.size, 0, none⟩), .pointer (some ⟨w.heap.size + 1, 0, none⟩), .pointer (some ⟨w.heap.size + 1 + 1, 0, none⟩), .pointer (some ⟨w.heap.size + 1 + 1 + 1, 0, none⟩), .pointer (some ⟨w.heap.size + 1 + 1 + 1 + 1, 0, none⟩), .pointer (some ⟨w.heap.size + 1 + 1 + 1 + 1 + 1, 0, none⟩), .pointer (some ⟨bx, 0, none⟩), undef, .agg #[.int .i64 L, .int .i64 st, .slice A l.length c], .func (.func 69) #[] #[.pointer (some ⟨bs, 0, none⟩), .pointer (some ⟨bm, 0, none⟩), .pointer (some ⟨bc, 0, none⟩)], hval L st A l.length c x, undef, undef, undef, undef, undef, undef, undef, undef, undef, undef, undef, undef, undef, undef, undef, undef, undef, undef, undef, undef, undef, undef, undef, undef, undef, undef, undef, undef], defers := [] } ∧ w3.heap.size + 1 < bx ∧ W.heap[bx]? = some (.cells (hcells L st A l.length c x).toArray 88 (0, 0))) ?ax ?assign ?body ?done ?stop
  case ax =>
    rintro x a' W o ⟨bx, rfl, hb, hx⟩
    exact ⟨bx, rfl, hb, (World.putObj_heap_other (by omega)).trans hx⟩
  case assign =>
    intro x W m K hlt hx hK
    obtain ⟨v, hv⟩ : ∃ v, hval L st A l.length c x = v := ⟨_, rfl⟩
    have HV := Aside0.mk hv
    have HK := Aside0.mk hK
    rw [hv]
    clear hv hK
    gi_wp2_with (refine storeNewIn_ (fun _ => trivial) 88 (.tmp 9) (.tmp 13) rfl rfl rfl (by simp [Act.eval]) (by rw [← HV.out]; rfl) (by rw [size88]; simp [hcells_len L st A l.length c x (by omega)]) (by simp [hcells_len L st A l.length c x (by omega)]) (hcells_one ..) ?_; intro w5 hw5 hb5 hz5; have HW5 := Aside0.mk hw5; have HB5 := Aside0.mk hb5; clear hw5 hb5 hz5)
    refine HK.out _ _ HB5.out ⟨W.heap.size, ?_, hlt, HW5.out⟩
    rw [← HV.out]
  case body =>
    rintro pre x a' W m hlt hch hcell ⟨bx, rfl, hbx, hrow⟩ hpre hx
    have s4 := hch.heap HX4'.out (by rintro (h | h | h | h) <;> omega)
    have s5 := hch.heap HX5'.out (by rintro (h | h | h | h) <;> omega)
    have HP : Aside0 (W.cell? ⟨w.heap.size + 1, 0, none⟩ = some (.int .i64 rank) ∧ W.cell? ⟨w.heap.size + 1 + 1, 0, none⟩ = some (.bool high) ∧ w.heap.size + 1 < W.heap.size ∧ w.heap.size + 1 + 1 < W.heap.size) :=
      ⟨(blk_cell s4 0).trans rfl, (blk_cell s5 0).trans rfl, blk_lt s4, blk_lt s5⟩
    clear s4 s5
    obtain ⟨v, hv⟩ : ∃ v, hval L st A l.length c x = v := ⟨_, rfl⟩
    have HV := Aside0.mk hv
    have LC : Aside0 (∀ W', Calls Try.prog 54 #[v, .bool high] W' fun e w' => ∃ v, e = .returned v ∧ Kd.R (Kd.int .i64) 3 w' W'.heap.size (fun _ => True) v (x.map (limit L high)) ∧ Below W'.heap.size W' w') :=
      ⟨fun W' => by have := limits_calls L st A c x high W' (by omega) (HMEM.out pre x hpre); rw [hx, hv] at this; exact this⟩
    rw [hv]
    obtain ⟨kn, hkn⟩ : ∃ kn, (rising (x.map (limit L high))).getD rank.toNat 0 = kn := ⟨_, rfl⟩
    have HKN : Aside0 (keyOf L high rank x = kn) := ⟨hkn⟩
    have hxl : (x.map (limit L high)).length = l.length := by simp [hx]
    have HROW := Aside0.mk hrow
    have HCELL := Aside0.mk hcell
    have HX := Aside0.mk hx
    have HPRE := Aside0.mk hpre
    clear hv hrow hcell hx hpre
    gi_wp2_with fail
    refine startRd_ (n := 6) (S := (Below W.heap.size W)) (ds := []) #[false, false, false, false, false, false] (by kernel_rfl) rfl rfl ((Below.refl _ _).drew) rfl (fun hHeld => ?_)
    refine with_tabW f52.tab4 f52.bits4 (fun HT_ HW_ => ?_)
    refine take_ (i := 0) (N := some 14) (v := ?_) (a' := ?_) #[true, false, false, false, false, false] rfl rfl (take_ofW HT_.out HW_.out (by kernel_rfl)) (fun _ _ _ h => h) (Or.inl ⟨by rfl, ?_⟩) hHeld ?_ ?_
    rotate_left
    · rintro w' hS
      refine (run_loadRow 88 (.tmp 9) rfl bx rfl 88 _ (0, 0) _ ((hS.block bx (blk_lt HROW.out)).trans HROW.out) Try.underlying88 rfl (by rw [size88, hcells_size (by have := HX.out; omega)])).trans (by rw [show Value.agg (hcells L st A l.length c x).toArray = v from HV.out])
    rotate_left
    · simp only [Act.put, List.setIfInBounds_toArray, List.set_cons_zero, List.set_cons_succ, i64_w, i32_w]
      rfl
    refine take_ (i := 1) (N := some 15) (v := ?_) (a' := ?_) #[true, true, false, false, false, false] rfl rfl (take_ofW HT_.out HW_.out (by kernel_rfl)) (fun _ _ _ h => h) (Or.inl ⟨by rfl, ?_⟩) hHeld ?_ ?_
    rotate_left
    · rintro w' hS
      have s4 := (hS.cell (p := ⟨w.heap.size + 1, 0, none⟩) HP.out.2.2.1).trans HP.out.1
      have s5 := (hS.cell (p := ⟨w.heap.size + 1 + 1, 0, none⟩) HP.out.2.2.2).trans HP.out.2.1
      clear hS
      go_simp
      with_reducible rfl
    rotate_left
    · simp only [Act.put, List.setIfInBounds_toArray, List.set_cons_zero, List.set_cons_succ, i64_w, i32_w]
      rfl
    refine take_ (i := 3) (N := some 17) (v := ?_) (a' := ?_) #[true, true, false, true, false, false] rfl rfl (take_ofW HT_.out HW_.out (by kernel_rfl)) (fun _ _ _ h => h) (Or.inl ⟨by rfl, ?_⟩) hHeld ?_ ?_
    rotate_left
    · rintro w' hS
      have s4 := (hS.cell (p := ⟨w.heap.size + 1, 0, none⟩) HP.out.2.2.1).trans HP.out.1
      have s5 := (hS.cell (p := ⟨w.heap.size + 1 + 1, 0, none⟩) HP.out.2.2.2).trans HP.out.2.1
      clear hS
      go_simp
      with_reducible rfl
    rotate_left
    · simp only [Act.put, List.setIfInBounds_toArray, List.set_cons_zero, List.set_cons_succ, i64_w, i32_w]
      rfl
    refine one_ (i := 2) (N := some 16) #[true, true, true, true, false, false] rfl rfl (one_of HT_.out (by kernel_rfl)) (by decide) (fun K hK => ?_)
    refine goes_ Try.func54 (by kernel_rfl) rfl #[v, .bool high] (by rfl) rfl rfl (by (try simp only [List.map_toArray, List.map_cons, List.map_nil]); first | done | rfl) ?_
    refine (LC.out _).mono ?_
    rintro e w5 ⟨v5, rfl, hr5, hb5⟩
    have HR5 := Aside0.mk hr5
    refine ⟨_, rfl, hK.out _ _ (hHeld.trans (hb5.mono hHeld.size)) ?_⟩
    clear hHeld hb5 hr5
    intro hHeld
    clear hK K
    refine norm_ (a' := ?_) ?_ ?_
    rotate_left
    · show Act.put _ (some 16) _ = _
      simp only [Act.put, List.setIfInBounds_toArray, List.set_cons_zero, List.set_cons_succ, i64_w, i32_w]
      rfl
    refine one_ (i := 4) (N := some 18) #[true, true, true, true, true, false] rfl rfl (one_of HT_.out (by kernel_rfl)) (by decide) (fun K hK => ?_)
    refine goes_ Try.func73 (by kernel_rfl) rfl #[v5, .int .i64 rank] (by rfl) rfl rfl (by (try simp only [List.map_toArray, List.map_cons, List.map_nil]); first | done | rfl) ?_
    refine (ranked_calls v5 _ rank _ _ _ HR5.out hr0 (by rw [hxl]; exact hr1) (by rw [hxl]; exact k5)).mono ?_
    rintro e w6 ⟨rfl, hb6⟩
    rw [hkn]
    refine ⟨_, rfl, hK.out _ _ (hHeld.trans (hb6.mono hHeld.size)) ?_⟩
    clear hHeld hb6
    intro hHeld
    clear hK K
    refine norm_ (a' := ?_) ?_ ?_
    rotate_left
    · show Act.put _ (some 18) _ = _
      simp only [Act.put, List.setIfInBounds_toArray, List.set_cons_zero, List.set_cons_succ, i64_w, i32_w]
      rfl
    refine take_ (i := 5) (N := some 10) (v := ?_) (a' := ?_) #[true, true, true, true, true, true] rfl rfl (take_ofW HT_.out HW_.out (by kernel_rfl)) (fun _ _ _ h => h) (Or.inl ⟨by rfl, ?_⟩) hHeld ?_ ?_
    rotate_left
    · rintro w' hS
      have s4 := (hS.cell (p := ⟨w.heap.size + 1, 0, none⟩) HP.out.2.2.1).trans HP.out.1
      have s5 := (hS.cell (p := ⟨w.heap.size + 1 + 1, 0, none⟩) HP.out.2.2.2).trans HP.out.2.1
      clear hS
      go_simp
      with_reducible rfl
    rotate_left
    · simp only [Act.put, List.setIfInBounds_toArray, List.set_cons_zero, List.set_cons_succ, i64_w, i32_w]
      rfl
    refine done_ (done_of HT_.out (by kernel_rfl)) ?_
    refine onlyN_mk ?_
    have HC6 := Aside0.mk (HCELL.out.kept (fun b h1 h2 => hHeld.block b (by omega)))
    have HROW6 := Aside0.mk (hHeld.block bx (blk_lt HROW.out) |>.trans HROW.out)
    have HP6 := Aside0.mk ((hHeld.cell (p := ⟨w.heap.size + 1 + 1, 0, none⟩) HP.out.2.2.2).trans HP.out.2.1)
    have HH6 := Aside0.mk hHeld
    have HL6 : Aside0 (W.heap.size ≤ w6.heap.size) := ⟨hHeld.size⟩
    clear hHeld
    obtain ⟨bo, hbo⟩ : ∃ bo, bestOf L high rank pre = bo := ⟨_, rfl⟩
    have hsn : bestOf L high rank (pre ++ [x]) = bestStep L high rank bo x := by rw [bestOf_snoc, hbo]
    rw [hbo] at HC6
    have HSN := Aside0.mk hsn
    have HBLEN0 : Aside0 (∀ b, bo = some b → b.length ≤ 14) := ⟨fun b e => by rw [e] at hbo; have := hists_len L l st b (HPRE.out.subset (by simp [bestOf_mem L high rank pre b hbo])); omega⟩
    clear hsn hbo
    have r5 := HP6.out
    cases bo with
    | none =>
      obtain ⟨⟨cs0, hcs0, hcs1⟩, hc7, hc8⟩ := HC6.out
      have HO := Aside0.mk (And.intro hcs0 hcs1)
      have r8 : w6.cell? ⟨w.heap.size + 1 + 1 + 1 + 1 + 1, 0, none⟩ = some (.bool false) := (blk_cell hc8 0).trans rfl
      have HC78 := Aside0.mk (And.intro hc7 hc8)
      clear hcs0 hcs1 hc7 hc8
      gi_wp2_with (first | (refine gateIn_dst (N := 22) rfl ?_; refine skipIn_ (fun _ => trivial) (by rfl) ?_) | (refine gateIn_dst (N := 23) rfl ?_; refine skipIn_ (fun _ => trivial) (by rfl) ?_) | (refine gateIn_dst (N := 24) rfl ?_; refine skipIn_ (fun _ => trivial) (by rfl) ?_) | (refine gateIn_dst (N := 25) rfl ?_; refine skipIn_ (fun _ => trivial) (by rfl) ?_) | (refine gateIn_dst (N := 26) rfl ?_; refine skipIn_ (fun _ => trivial) (by rfl) ?_) | (refine gateIn_dst (N := 27) rfl ?_; refine skipIn_ (fun _ => trivial) (by rfl) ?_) | (refine gateIn_dst (N := 30) rfl ?_; refine skipIn_ (fun _ => trivial) (by rfl) ?_) | (refine gateIn_dst (N := 31) rfl ?_; refine skipIn_ (fun _ => trivial) (by rfl) ?_) | (refine gateIn_dst (N := 32) rfl ?_; refine skipIn_ (fun _ => trivial) (by rfl) ?_) | (refine gateIn_dst (N := 33) rfl ?_; refine skipIn_ (fun _ => trivial) (by rfl) ?_) | (refine gateIn_dst (N := 34) rfl ?_; refine skipIn_ (fun _ => trivial) (by rfl) ?_) | (refine gateIn_dst (N := 35) rfl ?_; refine skipIn_ (fun _ => trivial) (by rfl) ?_) | (refine gateIn_dst (N := 36) rfl ?_; refine skipIn_ (fun _ => trivial) (by rfl) ?_) | (refine gateIn_dst (N := 38) rfl ?_; refine load_rowIn (fun _ => trivial) 88 (.tmp 9) rfl rfl bx rfl 88 _ (0, 0) _ HROW6.out Try.underlying88 rfl (by rw [size88, hcells_size (by have := HX.out; omega)]) ?_; rw [show Value.agg (hcells L st A l.length c x).toArray = v from HV.out]) | (refine storeRowIn_ (fun _ => trivial) 88 (.tmp 6) (.tmp 38) rfl rfl rfl _ rfl (by rw [← HV.out]; rfl) HO.out.1 (by rw [size88]; simp [hcells_len L st A l.length c x (by have := HX.out; omega)]) (by rw [HO.out.2]; simp [hcells_len L st A l.length c x (by have := HX.out; omega)]) (hcells_one ..) ?_; intro w7 hw7 hc7; have HW7 := Aside0.mk hw7; have HC7 := Aside0.mk hc7; have t7 := hc7.heap HC78.out.1 (by omega); have t8 := hc7.heap HC78.out.2 (by omega); have HT78 := Aside0.mk (And.intro t7 t8); have r7' := (blk_cell t7 0).trans rfl; have r7f := blk_frozen t7 0; have r8' := (blk_cell t8 0).trans rfl; have r8f := blk_frozen t8 0; clear hw7 hc7 t7 t8))
      refine ⟨((((Ch.of_below HH6.out).trans (HC7.out.imp fun _ _ e => .inl e)).setCell _ _ (fun _ => .inr (.inl rfl))).setCell _ _ (fun _ => .inr (.inr rfl))), ?_⟩
      show EndR _ _ _ _ _ _ _ _ (bestOf _ _ _ _) _
      rw [HSN.out]
      have e : bestStep L high rank none x = some x := rfl
      rw [e]
      refine ⟨blk_far (blk_far HW7.out (by show w.heap.size + 1 + 1 + 1 ≠ w.heap.size + 1 + 1 + 1 + 1; omega) _) (by show w.heap.size + 1 + 1 + 1 ≠ w.heap.size + 1 + 1 + 1 + 1 + 1; omega) _, ?_, ?_⟩
      · rw [HKN.out]
        exact blk_far (blk_put HT78.out.1 0 _ rfl) (by show w.heap.size + 1 + 1 + 1 + 1 ≠ w.heap.size + 1 + 1 + 1 + 1 + 1; omega) _
      · exact blk_put (blk_far HT78.out.2 (by show w.heap.size + 1 + 1 + 1 + 1 + 1 ≠ w.heap.size + 1 + 1 + 1 + 1; omega) _) 0 _ rfl
    | some b =>
      obtain ⟨hc6, hc7, hc8⟩ := HC6.out
      have HBLEN := Aside0.mk (HBLEN0.out b rfl)
      obtain ⟨kb, hkb⟩ : ∃ kb, keyOf L high rank b = kb := ⟨_, rfl⟩
      rw [hkb] at hc7
      have HO : Aside0 (w6.heap[w.heap.size + 1 + 1 + 1]? = some (.cells (hcells L st A l.length c b).toArray 88 (0, 0)) ∧ (hcells L st A l.length c b).toArray.size = 31) := ⟨hc6, by simp [hcells_len L st A l.length c b HBLEN.out]⟩
      have r8 : w6.cell? ⟨w.heap.size + 1 + 1 + 1 + 1 + 1, 0, none⟩ = some (.bool true) := (blk_cell hc8 0).trans rfl
      have r7 : w6.cell? ⟨w.heap.size + 1 + 1 + 1 + 1, 0, none⟩ = some (.int .i64 kb) := (blk_cell hc7 0).trans rfl
      have HC78 := Aside0.mk (And.intro hc7 hc8)
      have HKB := Aside0.mk hkb
      clear hc6 hc7 hc8 hkb
      cases high with
      | true =>
        by_cases hgt : kb < kn
        · have hgtb : decide (kb < kn) = true := decide_eq_true hgt
          have HGT := Aside0.mk hgt
          clear hgt
          gi_wp2_with (first | (refine gateIn_dst (N := 22) rfl ?_; refine skipIn_ (fun _ => trivial) (by rfl) ?_) | (refine gateIn_dst (N := 23) rfl ?_; refine skipIn_ (fun _ => trivial) (by rfl) ?_) | (refine gateIn_dst (N := 24) rfl ?_; refine skipIn_ (fun _ => trivial) (by rfl) ?_) | (refine gateIn_dst (N := 25) rfl ?_; refine skipIn_ (fun _ => trivial) (by rfl) ?_) | (refine gateIn_dst (N := 26) rfl ?_; refine skipIn_ (fun _ => trivial) (by rfl) ?_) | (refine gateIn_dst (N := 27) rfl ?_; refine skipIn_ (fun _ => trivial) (by rfl) ?_) | (refine gateIn_dst (N := 30) rfl ?_; refine skipIn_ (fun _ => trivial) (by rfl) ?_) | (refine gateIn_dst (N := 31) rfl ?_; refine skipIn_ (fun _ => trivial) (by rfl) ?_) | (refine gateIn_dst (N := 32) rfl ?_; refine skipIn_ (fun _ => trivial) (by rfl) ?_) | (refine gateIn_dst (N := 33) rfl ?_; refine skipIn_ (fun _ => trivial) (by rfl) ?_) | (refine gateIn_dst (N := 34) rfl ?_; refine skipIn_ (fun _ => trivial) (by rfl) ?_) | (refine gateIn_dst (N := 35) rfl ?_; refine skipIn_ (fun _ => trivial) (by rfl) ?_) | (refine gateIn_dst (N := 36) rfl ?_; refine skipIn_ (fun _ => trivial) (by rfl) ?_) | (refine gateIn_dst (N := 38) rfl ?_; refine load_rowIn (fun _ => trivial) 88 (.tmp 9) rfl rfl bx rfl 88 _ (0, 0) _ HROW6.out Try.underlying88 rfl (by rw [size88, hcells_size (by have := HX.out; omega)]) ?_; rw [show Value.agg (hcells L st A l.length c x).toArray = v from HV.out]) | (refine storeRowIn_ (fun _ => trivial) 88 (.tmp 6) (.tmp 38) rfl rfl rfl _ rfl (by rw [← HV.out]; rfl) HO.out.1 (by rw [size88]; simp [hcells_len L st A l.length c x (by have := HX.out; omega)]) (by rw [HO.out.2]; simp [hcells_len L st A l.length c x (by have := HX.out; omega)]) (hcells_one ..) ?_; intro w7 hw7 hc7; have HW7 := Aside0.mk hw7; have HC7 := Aside0.mk hc7; have t7 := hc7.heap HC78.out.1 (by omega); have t8 := hc7.heap HC78.out.2 (by omega); have HT78 := Aside0.mk (And.intro t7 t8); have r7' := (blk_cell t7 0).trans rfl; have r7f := blk_frozen t7 0; have r8' := (blk_cell t8 0).trans rfl; have r8f := blk_frozen t8 0; clear hw7 hc7 t7 t8))
          refine ⟨((((Ch.of_below HH6.out).trans (HC7.out.imp fun _ _ e => .inl e)).setCell _ _ (fun _ => .inr (.inl rfl))).setCell _ _ (fun _ => .inr (.inr rfl))), ?_⟩
          show EndR _ _ _ _ _ _ _ _ (bestOf _ _ _ _) _
          rw [HSN.out]
          have e : bestStep L true rank (some b) x = some x := by simp only [bestStep, better, HKN.out, HKB.out, hgtb, if_true, if_false, Bool.false_eq_true]
          rw [e]
          refine ⟨blk_far (blk_far HW7.out (by show w.heap.size + 1 + 1 + 1 ≠ w.heap.size + 1 + 1 + 1 + 1; omega) _) (by show w.heap.size + 1 + 1 + 1 ≠ w.heap.size + 1 + 1 + 1 + 1 + 1; omega) _, ?_, ?_⟩
          · rw [HKN.out]
            exact blk_far (blk_put HT78.out.1 0 _ rfl) (by show w.heap.size + 1 + 1 + 1 + 1 ≠ w.heap.size + 1 + 1 + 1 + 1 + 1; omega) _
          · exact blk_put (blk_far HT78.out.2 (by show w.heap.size + 1 + 1 + 1 + 1 + 1 ≠ w.heap.size + 1 + 1 + 1 + 1; omega) _) 0 _ rfl
        · have hgtb : decide (kb < kn) = false := decide_eq_false hgt
          have HGT := Aside0.mk hgt
          clear hgt
          gi_wp2_with (first | (refine gateIn_dst (N := 22) rfl ?_; refine skipIn_ (fun _ => trivial) (by rfl) ?_) | (refine gateIn_dst (N := 23) rfl ?_; refine skipIn_ (fun _ => trivial) (by rfl) ?_) | (refine gateIn_dst (N := 24) rfl ?_; refine skipIn_ (fun _ => trivial) (by rfl) ?_) | (refine gateIn_dst (N := 25) rfl ?_; refine skipIn_ (fun _ => trivial) (by rfl) ?_) | (refine gateIn_dst (N := 26) rfl ?_; refine skipIn_ (fun _ => trivial) (by rfl) ?_) | (refine gateIn_dst (N := 27) rfl ?_; refine skipIn_ (fun _ => trivial) (by rfl) ?_) | (refine gateIn_dst (N := 30) rfl ?_; refine skipIn_ (fun _ => trivial) (by rfl) ?_) | (refine gateIn_dst (N := 31) rfl ?_; refine skipIn_ (fun _ => trivial) (by rfl) ?_) | (refine gateIn_dst (N := 32) rfl ?_; refine skipIn_ (fun _ => trivial) (by rfl) ?_) | (refine gateIn_dst (N := 33) rfl ?_; refine skipIn_ (fun _ => trivial) (by rfl) ?_) | (refine gateIn_dst (N := 34) rfl ?_; refine skipIn_ (fun _ => trivial) (by rfl) ?_) | (refine gateIn_dst (N := 35) rfl ?_; refine skipIn_ (fun _ => trivial) (by rfl) ?_) | (refine gateIn_dst (N := 36) rfl ?_; refine skipIn_ (fun _ => trivial) (by rfl) ?_) | (refine gateIn_dst (N := 38) rfl ?_; refine load_rowIn (fun _ => trivial) 88 (.tmp 9) rfl rfl bx rfl 88 _ (0, 0) _ HROW6.out Try.underlying88 rfl (by rw [size88, hcells_size (by have := HX.out; omega)]) ?_; rw [show Value.agg (hcells L st A l.length c x).toArray = v from HV.out]) | (refine storeRowIn_ (fun _ => trivial) 88 (.tmp 6) (.tmp 38) rfl rfl rfl _ rfl (by rw [← HV.out]; rfl) HO.out.1 (by rw [size88]; simp [hcells_len L st A l.length c x (by have := HX.out; omega)]) (by rw [HO.out.2]; simp [hcells_len L st A l.length c x (by have := HX.out; omega)]) (hcells_one ..) ?_; intro w7 hw7 hc7; have HW7 := Aside0.mk hw7; have HC7 := Aside0.mk hc7; have t7 := hc7.heap HC78.out.1 (by omega); have t8 := hc7.heap HC78.out.2 (by omega); have HT78 := Aside0.mk (And.intro t7 t8); have r7' := (blk_cell t7 0).trans rfl; have r7f := blk_frozen t7 0; have r8' := (blk_cell t8 0).trans rfl; have r8f := blk_frozen t8 0; clear hw7 hc7 t7 t8))
          refine ⟨.of_below HH6.out, ?_⟩
          show EndR _ _ _ _ _ _ _ _ (bestOf _ _ _ _) _
          rw [HSN.out]
          have e : bestStep L true rank (some b) x = some b := by simp only [bestStep, better, HKN.out, HKB.out, hgtb, if_true, if_false, Bool.false_eq_true]
          rw [e]
          exact HC6.out
      | false =>
        by_cases hgt : kn < kb
        · have hgtb : decide (kn < kb) = true := decide_eq_true hgt
          have HGT := Aside0.mk hgt
          clear hgt
          gi_wp2_with (first | (refine gateIn_dst (N := 22) rfl ?_; refine skipIn_ (fun _ => trivial) (by rfl) ?_) | (refine gateIn_dst (N := 23) rfl ?_; refine skipIn_ (fun _ => trivial) (by rfl) ?_) | (refine gateIn_dst (N := 24) rfl ?_; refine skipIn_ (fun _ => trivial) (by rfl) ?_) | (refine gateIn_dst (N := 25) rfl ?_; refine skipIn_ (fun _ => trivial) (by rfl) ?_) | (refine gateIn_dst (N := 26) rfl ?_; refine skipIn_ (fun _ => trivial) (by rfl) ?_) | (refine gateIn_dst (N := 27) rfl ?_; refine skipIn_ (fun _ => trivial) (by rfl) ?_) | (refine gateIn_dst (N := 30) rfl ?_; refine skipIn_ (fun _ => trivial) (by rfl) ?_) | (refine gateIn_dst (N := 31) rfl ?_; refine skipIn_ (fun _ => trivial) (by rfl) ?_) | (refine gateIn_dst (N := 32) rfl ?_; refine skipIn_ (fun _ => trivial) (by rfl) ?_) | (refine gateIn_dst (N := 33) rfl ?_; refine skipIn_ (fun _ => trivial) (by rfl) ?_) | (refine gateIn_dst (N := 34) rfl ?_; refine skipIn_ (fun _ => trivial) (by rfl) ?_) | (refine gateIn_dst (N := 35) rfl ?_; refine skipIn_ (fun _ => trivial) (by rfl) ?_) | (refine gateIn_dst (N := 36) rfl ?_; refine skipIn_ (fun _ => trivial) (by rfl) ?_) | (refine gateIn_dst (N := 38) rfl ?_; refine load_rowIn (fun _ => trivial) 88 (.tmp 9) rfl rfl bx rfl 88 _ (0, 0) _ HROW6.out Try.underlying88 rfl (by rw [size88, hcells_size (by have := HX.out; omega)]) ?_; rw [show Value.agg (hcells L st A l.length c x).toArray = v from HV.out]) | (refine storeRowIn_ (fun _ => trivial) 88 (.tmp 6) (.tmp 38) rfl rfl rfl _ rfl (by rw [← HV.out]; rfl) HO.out.1 (by rw [size88]; simp [hcells_len L st A l.length c x (by have := HX.out; omega)]) (by rw [HO.out.2]; simp [hcells_len L st A l.length c x (by have := HX.out; omega)]) (hcells_one ..) ?_; intro w7 hw7 hc7; have HW7 := Aside0.mk hw7; have HC7 := Aside0.mk hc7; have t7 := hc7.heap HC78.out.1 (by omega); have t8 := hc7.heap HC78.out.2 (by omega); have HT78 := Aside0.mk (And.intro t7 t8); have r7' := (blk_cell t7 0).trans rfl; have r7f := blk_frozen t7 0; have r8' := (blk_cell t8 0).trans rfl; have r8f := blk_frozen t8 0; clear hw7 hc7 t7 t8))
          refine ⟨((((Ch.of_below HH6.out).trans (HC7.out.imp fun _ _ e => .inl e)).setCell _ _ (fun _ => .inr (.inl rfl))).setCell _ _ (fun _ => .inr (.inr rfl))), ?_⟩
          show EndR _ _ _ _ _ _ _ _ (bestOf _ _ _ _) _
          rw [HSN.out]
          have e : bestStep L false rank (some b) x = some x := by simp only [bestStep, better, HKN.out, HKB.out, hgtb, if_true, if_false, Bool.false_eq_true]
          rw [e]
          refine ⟨blk_far (blk_far HW7.out (by show w.heap.size + 1 + 1 + 1 ≠ w.heap.size + 1 + 1 + 1 + 1; omega) _) (by show w.heap.size + 1 + 1 + 1 ≠ w.heap.size + 1 + 1 + 1 + 1 + 1; omega) _, ?_, ?_⟩
          · rw [HKN.out]
            exact blk_far (blk_put HT78.out.1 0 _ rfl) (by show w.heap.size + 1 + 1 + 1 + 1 ≠ w.heap.size + 1 + 1 + 1 + 1 + 1; omega) _
          · exact blk_put (blk_far HT78.out.2 (by show w.heap.size + 1 + 1 + 1 + 1 + 1 ≠ w.heap.size + 1 + 1 + 1 + 1; omega) _) 0 _ rfl
        · have hgtb : decide (kn < kb) = false := decide_eq_false hgt
          have HGT := Aside0.mk hgt
          clear hgt
          gi_wp2_with (first | (refine gateIn_dst (N := 22) rfl ?_; refine skipIn_ (fun _ => trivial) (by rfl) ?_) | (refine gateIn_dst (N := 23) rfl ?_; refine skipIn_ (fun _ => trivial) (by rfl) ?_) | (refine gateIn_dst (N := 24) rfl ?_; refine skipIn_ (fun _ => trivial) (by rfl) ?_) | (refine gateIn_dst (N := 25) rfl ?_; refine skipIn_ (fun _ => trivial) (by rfl) ?_) | (refine gateIn_dst (N := 26) rfl ?_; refine skipIn_ (fun _ => trivial) (by rfl) ?_) | (refine gateIn_dst (N := 27) rfl ?_; refine skipIn_ (fun _ => trivial) (by rfl) ?_) | (refine gateIn_dst (N := 30) rfl ?_; refine skipIn_ (fun _ => trivial) (by rfl) ?_) | (refine gateIn_dst (N := 31) rfl ?_; refine skipIn_ (fun _ => trivial) (by rfl) ?_) | (refine gateIn_dst (N := 32) rfl ?_; refine skipIn_ (fun _ => trivial) (by rfl) ?_) | (refine gateIn_dst (N := 33) rfl ?_; refine skipIn_ (fun _ => trivial) (by rfl) ?_) | (refine gateIn_dst (N := 34) rfl ?_; refine skipIn_ (fun _ => trivial) (by rfl) ?_) | (refine gateIn_dst (N := 35) rfl ?_; refine skipIn_ (fun _ => trivial) (by rfl) ?_) | (refine gateIn_dst (N := 36) rfl ?_; refine skipIn_ (fun _ => trivial) (by rfl) ?_) | (refine gateIn_dst (N := 38) rfl ?_; refine load_rowIn (fun _ => trivial) 88 (.tmp 9) rfl rfl bx rfl 88 _ (0, 0) _ HROW6.out Try.underlying88 rfl (by rw [size88, hcells_size (by have := HX.out; omega)]) ?_; rw [show Value.agg (hcells L st A l.length c x).toArray = v from HV.out]) | (refine storeRowIn_ (fun _ => trivial) 88 (.tmp 6) (.tmp 38) rfl rfl rfl _ rfl (by rw [← HV.out]; rfl) HO.out.1 (by rw [size88]; simp [hcells_len L st A l.length c x (by have := HX.out; omega)]) (by rw [HO.out.2]; simp [hcells_len L st A l.length c x (by have := HX.out; omega)]) (hcells_one ..) ?_; intro w7 hw7 hc7; have HW7 := Aside0.mk hw7; have HC7 := Aside0.mk hc7; have t7 := hc7.heap HC78.out.1 (by omega); have t8 := hc7.heap HC78.out.2 (by omega); have HT78 := Aside0.mk (And.intro t7 t8); have r7' := (blk_cell t7 0).trans rfl; have r7f := blk_frozen t7 0; have r8' := (blk_cell t8 0).trans rfl; have r8f := blk_frozen t8 0; clear hw7 hc7 t7 t8))
          refine ⟨.of_below HH6.out, ?_⟩
          show EndR _ _ _ _ _ _ _ _ (bestOf _ _ _ _) _
          rw [HSN.out]
          have e : bestStep L false rank (some b) x = some b := by simp only [bestStep, better, HKN.out, HKB.out, hgtb, if_true, if_false, Bool.false_eq_true]
          rw [e]
          exact HC6.out
  case done =>
    rintro W hch hcell hk
    obtain ⟨b, hb⟩ := bestOf_some L high rank (hists L st l) hne
    have hcell : EndR L st A l.length c high rank (w.heap.size + 1 + 1 + 1) (some b) W := by rw [← hb]; exact hcell
    have hbl : b.length = l.length := hists_len L l st b (bestOf_mem L high rank _ b hb)
    obtain ⟨hc6, hc7, hc8⟩ := hcell
    obtain ⟨kb, hkb⟩ : ∃ kb, keyOf L high rank b = kb := ⟨_, rfl⟩
    rw [hkb] at hc7
    have HBW : Aside0 (Below w.heap.size w W) := ⟨HB3.out.trans (hch.below (by omega) (by rintro i hi (h | h | h | h) <;> omega))⟩
    obtain ⟨v, hv⟩ : ∃ v, hval L st A l.length c b = v := ⟨_, rfl⟩
    have HV := Aside0.mk hv
    have HC6 := Aside0.mk hc6
    have HC7 := Aside0.mk hc7
    have HKB := Aside0.mk hkb
    have HBL := Aside0.mk hbl
    have HK := Aside0.mk hk
    have HBB := Aside0.mk hb
    have hlt6 := blk_lt hc6
    have hlt7 := blk_lt hc7
    clear hch hc6 hc7 hc8 hk hkb hbl hb hv
    gi_wp2_with fail
    refine startIn_ (n := 4) (S := (Below W.heap.size W)) (ds := [3]) #[false, false, false, false] (by kernel_rfl) rfl rfl ((Below.refl _ _).drew) rfl (fun hHeld => ?_)
    refine with_tabW f52.tab7 f52.bits7 (fun HT_ HW_ => ?_)
    refine take_ (i := 0) (N := some 40) (v := ?_) (a' := ?_) #[true, false, false, false] rfl rfl (take_ofW HT_.out HW_.out (by kernel_rfl)) (fun _ _ _ h => h) (Or.inl ⟨by rfl, ?_⟩) hHeld ?_ ?_
    rotate_left
    · rintro w' hS
      refine (run_loadRow 88 (.tmp 6) rfl (w.heap.size + 1 + 1 + 1) rfl 88 _ (0, 0) _ ((hS.block _ hlt6).trans HC6.out) Try.underlying88 rfl (by rw [size88, hcells_size (by have := HBL.out; omega)])).trans (by rw [show Value.agg (hcells L st A l.length c b).toArray = v from HV.out])
    rotate_left
    · simp only [Act.put, List.setIfInBounds_toArray, List.set_cons_zero, List.set_cons_succ, i64_w, i32_w]
      rfl
    refine take_ (i := 1) (N := some 41) (v := ?_) (a' := ?_) #[true, true, false, false] rfl rfl (take_ofW HT_.out HW_.out (by kernel_rfl)) (fun _ _ _ h => h) (Or.inl ⟨by rfl, ?_⟩) hHeld ?_ ?_
    rotate_left
    · rintro w' hS
      have s7 := (hS.cell (p := ⟨w.heap.size + 1 + 1 + 1 + 1, 0, none⟩) hlt7).trans ((blk_cell HC7.out 0).trans rfl : W.cell? ⟨w.heap.size + 1 + 1 + 1 + 1, 0, none⟩ = some (.int .i64 kb))
      clear hS
      go_simp
      with_reducible rfl
    rotate_left
    · simp only [Act.put, List.setIfInBounds_toArray, List.set_cons_zero, List.set_cons_succ, i64_w, i32_w]
      rfl
    refine one_ (i := 2) (N := none) #[true, true, true, false] rfl rfl (one_of HT_.out (by kernel_rfl)) (by decide) (fun K hK => ?_)
    refine skip_ (w1 := W.drew) (by rfl) rfl ((run_storeRow 88 (.tmp 6) (.tmp 40) rfl (w.heap.size + 1 + 1 + 1) rfl (by rw [← HV.out]; rfl) (hHeld.block _ hlt6 |>.trans HC6.out) (by rw [size88, hcells_size (by have := HBL.out; omega)]) rfl (hcells_one ..)).trans (by rw [setRow_self W.drew _ _ _ _ HC6.out])) ?_
    refine hK.out _ _ hHeld (fun hHeld => ?_)
    clear hK K
    refine last_ (i := 3) (N := none) #[true, true, true, true] rfl rfl (one_of HT_.out (by kernel_rfl)) (by decide) (fun K hK => ?_)
    have u7 : W.cell? ⟨w.heap.size + 1 + 1 + 1 + 1, 0, none⟩ = some (.int .i64 kb) := (blk_cell HC7.out 0).trans rfl
    have u7f := blk_frozen HC7.out 0
    refine skip_ (w1 := ?_) (by rfl) rfl ?_ ?_
    rotate_left
    · go_simp
      rfl
    refine hK.out _ _ ?_
    clear hK K
    refine done_ (done_of HT_.out (by kernel_rfl)) ?_
    refine onlyN_mk ?_
    gi_wp2_with fail
    refine mark_ret ?_ ?_
    · exact (Below.heap_setCell _ _ _ _ (by show w3.heap.size ≠ w.heap.size + 1 + 1 + 1 + 1; omega)).trans HK.out
    intro W' hW' hb'
    have g6 := (hW' (w.heap.size + 1 + 1 + 1) (by omega)).trans (blk_far HC6.out (p := ⟨w.heap.size + 1 + 1 + 1 + 1, 0, none⟩) (by show w.heap.size + 1 + 1 + 1 ≠ w.heap.size + 1 + 1 + 1 + 1; omega) (.int .i64 kb))
    have g7 := (hW' (w.heap.size + 1 + 1 + 1 + 1) (by omega)).trans (blk_put HC7.out 0 (.int .i64 kb) rfl)
    have hc7 : W'.cell? ⟨w.heap.size + 1 + 1 + 1 + 1, 0, none⟩ = some (.int .i64 kb) := (blk_cell g7 0).trans rfl
    refine ⟨.tuple #[hval L st A l.length c b, .int .i64 kb], ?_, b, HBB.out, by rw [HKB.out], ?_⟩
    · refine results_rc (p := 6) (q := 7) (ty := 88) (tq := 3) rfl _ _ (w.heap.size + 1 + 1 + 1) (w.heap.size + 1 + 1 + 1 + 1) 88 _ (0, 0) _ _ rfl g6 Try.underlying88 rfl (by rw [size88, hcells_size (by have := HBL.out; omega)]) rfl ?_
      simp [go_sem, hc7]
    · have hle : w.heap.size ≤ w3.heap.size := by omega
      refine Below.trans ?_ (hb'.mono hle)
      exact below_set HBW.out.drew (by show w.heap.size ≤ w.heap.size + 1 + 1 + 1 + 1; omega)
  case stop =>
    rintro k pre W hpre hch h hk
    exact h.elim
end Go.Proofs.Ytkglggggmlnleaa.Print
