/- The truth by which an end of a span is reached. -/
import Derived.Test.YtkglggggmlnleaaPk
import Derived.WalkSpells
namespace Go.Proofs.Ytkglggggmlnleaa.Print
open Go.RowKit Go.Proofs.YtkglggggmlnleaaW.PrintWords Go.Proofs.YtkglggggmlnleaaW.PrintLast Go.Proofs.YtkglggggmlnleaaW.PrintMore
set_option linter.unusedVariables false
set_option linter.unusedSimpArgs false
def f26.T5 : Bool × List (List Nat × List Nat) := (true, [([], []), ([], []), ([1], [1]), ([2], [2]), ([0, 3], [0, 3]), ([4], [4]), ([], []), ([], []), ([6, 7, 5], [6, 7]), ([5, 8, 0, 1, 2, 3, 4, 5], [5]), ([8, 9, 0, 1, 2, 3, 4, 5, 6, 7, 8, 9], [8]), ([10, 0, 1, 2, 3, 4, 5, 6, 7, 8, 9, 10], [])])
def f26.B5 : List Nat := [0, 0, 2, 6, 15, 31, 0, 0, 255, 511, 1023, 2047]
theorem f26.tab5 : rtab .any (opsOf Try.f26 5) = f26.T5 := by kernel_rfl
theorem f26.bits5 : waitsOk f26.T5.2 f26.B5 = true := by kernel_rfl
theorem add_off (g o j : Nat) : (⟨g, o, none⟩ : Addr).add j = ⟨g, o + j, none⟩ := by unfold Addr.add; split <;> simp_all
set_option maxHeartbeats 4000000 in
set_option maxRecDepth 100000 in
theorem clone8_calls (ad : Addr) (n c : Nat) (l : List Int) (w : World) (hr : Kd.C (Kd.int .u8) w (some ad) n l) (hl : n ≤ 1000) :
    Calls Try.prog 53 #[.slice (some ad) n c] w fun e w' => ∃ v, e = .returned v ∧ Kd.R (Kd.int .u8) 5 w' w.heap.size (fun _ => True) v l ∧ Below w.heap.size w w' := by
  have HR := Aside0.mk hr
  clear hr
  have hq := fun (w : World) (n' c' : Nat) => Lib.run_eql_slice_nil (P := Try.prog) w 41 5 (some ad) n c n' c' Try.underlying41
  go_enter Try.func53, Try.ntmps53
  go_wp2_with (first | ((with_reducible refine gate_dst (N := 5) rfl ?_); refine Kd.R_lit (Kd.int .u8) (w0 := w) w.heap.size 5 ?hg (N := 5) ?hd (xs := []) (inner := []) (ok := fun _ => True) (okp := fun _ => True) ?hr ?hp (fun _ hk => hk) trivial (Below.refl _ _) (Nat.le_refl _) (by simp) ?_; (case hd => rfl); (case hg => rfl); (case hr => first | (go_simp; done) | (go_simp; rfl)); (case hp => exact (Reps.none _ _)); intro v5 w5 hR hb hg hat; have HV5 := Aside0.mk hR; have HB5 := Aside0.mk hb; clear hR hb hg hat) | ((with_reducible refine gate_builtin (b := .append) (xs := #[.tmp 5, .tmp 6]) rfl ?_); at_builtin; refine Kd.R_append_rows (Kd.int .u8) (w0 := w) w.heap.size rfl (.tmp 5) (.tmp 6) 41 5 (.int .u8 0) 1 rfl Try.underlying41 info5 rfl (by decide) (by omega) v5 [] l _ _ _ (fun _ => True) (fun _ => False) rfl rfl HV5.out (Kd.C_below HR.out HB5.out) (fun _ _ h => h) (fun _ h => h.elim) (fun _ _ => trivial) HB5.out HB5.out.size (by simp; omega) ?_; intro v6 w6 hR hb hg hat; have HV6 := Aside0.mk hR; have HB6 := Aside0.mk hb; clear hR hb hg hat))
  go_ret
  exact ⟨_, rfl, HV6.out, HB6.out⟩
/-- The best history. -/
def showH (L st : Int) (l : List S67) (k : Int) (high : Bool) : List (Int × Int) := (bestOf L high k (hists L st l)).getD []
def showR (L st : Int) (l : List S67) (k : Int) (high : Bool) : List Int := if askE L st l k = 0 then (showH L st l k high).map (·.1) else []
def showL (L st : Int) (l : List S67) (k : Int) (high : Bool) : List Int := if askE L st l k = 0 then (showH L st l k high).map (limit L high) else []
set_option maxHeartbeats 4000000 in
set_option maxRecDepth 100000 in
theorem shows_calls (L st : Int) (A : Option Addr) (c : Nat) (l : List S67) (k : Int) (high : Bool) (w : World) (hr : Kd.C k67 w A l.length l) (hc : l.length ≤ c) :
    Calls Try.prog 26 #[.agg #[.int .i64 L, .int .i64 st, .slice A l.length c], .int .i64 k, .bool high] w fun e w' => ∃ v1 v2, e = .returned (.tuple #[v1, v2, .int .i64 (askE L st l k)]) ∧ Kd.R (Kd.int .u8) 5 w' w.heap.size (fun _ => True) v1 (showR L st l k high) ∧ Kd.R (Kd.int .i64) 3 w' w.heap.size (fun _ => True) v2 (showL L st l k high) ∧ Below w.heap.size w w' := by
  have hu34 := Try.underlying34
  have hu88 := Try.underlying88
  have hu85 := Try.underlying85
  have HB1 : Aside0 (Below w.heap.size w (w.alloc (.cells #[.int .i64 L, .int .i64 st, .slice A l.length c] 34))) := ⟨(Below.refl _ w).alloc (by simp) _⟩
  have HR := Aside0.mk hr
  have HC := Aside0.mk hc
  clear hr hc
  go_enter Try.func26, Try.ntmps26
  go_wp2_with fail
  refine (asked_calls L st A c l k _ (Kd.C_below HR.out HB1.out) HC.out).mono ?_
  rintro e w2 ⟨rfl, hb2⟩
  have HB2 := Aside0.mk (HB1.out.trans (hb2.mono HB1.out.size))
  have HX2 := Aside0.mk (blk_below (blk_new w (.cells #[.int .i64 L, .int .i64 st, .slice A l.length c] 34)) hb2)
  have q0 : w2.cell? ⟨w.heap.size, 0, none⟩ = some (.int .i64 L) := (blk_cell HX2.out 0).trans rfl
  have q1 : w2.cell? ⟨w.heap.size, 1, none⟩ = some (.int .i64 st) := (blk_cell HX2.out 1).trans rfl
  have q2 : w2.cell? ⟨w.heap.size, 2, none⟩ = some (.slice A l.length c) := (blk_cell HX2.out 2).trans rfl
  clear hb2
  obtain ⟨ck, hck⟩ : ∃ ck, askE L st l k = ck := ⟨_, rfl⟩
  have HCK := Aside0.mk hck
  have HSR : Aside0 (showR L st l k high = if ck = 0 then (showH L st l k high).map (·.1) else []) := ⟨by unfold showR; rw [hck]⟩
  have HSL : Aside0 (showL L st l k high = if ck = 0 then (showH L st l k high).map (limit L high) else []) := ⟨by unfold showL; rw [hck]⟩
  rw [hck]
  clear hck
  by_cases h0 : ck = 0
  · subst h0
    obtain ⟨hpo, hk0, hk1⟩ := askE_ok HCK.out
    obtain ⟨hco, hne⟩ := poss_ok hpo
    go_wp2_with fail
    refine (end_calls L st A c l k high _ (Kd.C_below HR.out HB2.out) HC.out hco hne hk0 hk1).mono ?_
    rintro e w3 ⟨b, hb, rfl, hb3⟩
    have HB3 := Aside0.mk (HB2.out.trans (hb3.mono HB2.out.size))
    have HX3 := Aside0.mk (blk_below HX2.out hb3)
    have hmem := bestOf_mem L high k _ b hb
    have hbl : b.length = l.length := hists_len L l st b hmem
    obtain ⟨k1, k2, k3, k4, k5⟩ := check_ok hco
    have hsh : showH L st l k high = b := by unfold showH; rw [hb]; rfl
    have HE1 : Aside0 (showR L st l k high = b.map (·.1)) := ⟨by rw [HSR.out]; simp [hsh]⟩
    have HE2 : Aside0 (showL L st l k high = b.map (limit L high)) := ⟨by rw [HSL.out]; simp [hsh]⟩
    have HLE : Aside0 (l.length ≤ 14 ∧ l.length ≤ 1000) := ⟨by omega⟩
    have hall : ∀ p ∈ b, 0 ≤ p.2 ∧ p.2 ≤ 8 := fun p hp => by have := hists_mem L l st b k3 k4 hmem p hp; omega
    obtain ⟨cs, hcs⟩ : ∃ cs, (hcells L st A l.length c b).toArray = cs := ⟨_, rfl⟩
    obtain ⟨v, hv⟩ : ∃ v, hval L st A l.length c b = v := ⟨_, rfl⟩
    have hv2 : v = .agg cs := by rw [← hv, ← hcs]; rfl
    have HV2 := Aside0.mk hv2
    have LC : Aside0 (∀ W : World, Calls Try.prog 54 #[v, .bool high] W fun e w' => ∃ v, e = .returned v ∧ Kd.R (Kd.int .i64) 3 w' W.heap.size (fun _ => True) v (b.map (limit L high)) ∧ Below W.heap.size W w') := ⟨fun W => by
      have := limits_calls L st A c b high W (by omega) hall
      rw [hbl, hv] at this
      exact this⟩
    have HSZ : Aside0 (cs.size = 31) := ⟨by rw [← hcs]; simp [hcells_len L st A l.length c b (by omega)]⟩
    have HONE : Aside0 (cs.all (·.oneCell') = true) := ⟨by rw [← hcs]; exact hcells_one ..⟩
    have HDC : Aside0 (∀ i, i < l.length → ∀ q, (b.map (·.1))[i]? = some q → cs[3 + i]? = some (.int .u8 q)) := ⟨fun i hi q hq => by
      rw [← hcs, hcells_did L st A l.length c b i (by omega) (by omega)]
      rw [List.getElem?_map, List.getElem?_eq_getElem (by omega)] at hq
      have e : b[i].1 = q := Option.some.inj hq
      rw [← e]⟩
    have HBM : Aside0 ((b.map (·.1)).length = l.length) := ⟨by simp [hbl]⟩
    have hl14 : (l.length : Int) ≤ 14 := by omega
    rw [hv, hv2]
    clear hcs hv hv2 hb hb3 hsh hall q0 q1 q2 hmem hbl
    go_wp2_with (refine storeNewL_ 88 (.tmp 10) (.tmp 23) rfl rfl rfl (by simp [Act.eval]) rfl (by rw [size88, HSZ.out]) (by rw [HSZ.out]; rfl) HONE.out ?_; intro w5 hw5 hb5 hz5; have HB5 := Aside0.mk (HB3.out.trans (hb5.mono HB3.out.size)); have HX5 := Aside0.mk (blk_below HX3.out hb5); have HROW := Aside0.mk hw5; clear hw5 hb5 hz5)
    obtain ⟨gh, hgh⟩ : ∃ gh, w3.heap.size = gh := ⟨_, rfl⟩
    rw [hgh] at HROW ⊢
    clear hgh
    have HQ : Aside0 (w5.cell? ⟨w.heap.size, 2, none⟩ = some (.slice A l.length c)) := ⟨(blk_cell HX5.out 2).trans rfl⟩
    have HLT := Aside0.mk (blk_lt HX5.out)
    have HDID : Aside0 (Kd.C (Kd.int .u8) w5 (some ⟨gh, 3, none⟩) l.length (b.map (·.1))) := ⟨HBM.out, by omega, fun _ => ⟨_, rfl, fun j p hj => ⟨[.int .u8 p], rfl, rfl, fun i u hi => by
      have hjl : j < l.length := by have := (List.getElem?_eq_some_iff.1 hj).1; have := HBM.out; omega
      match i, hi with
      | 0, hi =>
        simp at hi
        subst hi
        show w5.cell? ((⟨gh, 3, none⟩ : Addr).add (j * 1 + 0)) = _
        rw [add_off, Nat.mul_one, Nat.add_zero]
        exact (blk_cell HROW.out (3 + j)).trans (HDC.out j hjl p hj)
      | i + 1, hi => simp at hi⟩⟩⟩
    generalize w5 = W at HB5 HX5 HROW HQ HLT HDID ⊢
    refine start_ (n := 12) (S := (Below W.heap.size W)) (ds := []) #[false, false, false, false, false, false, false, false, false, false, false, false] (by kernel_rfl) rfl rfl ((Below.refl _ _).drew) (fun hHeld => ?_)
    refine with_tabW f26.tab5 f26.bits5 (fun HT_ HW_ => ?_)
    refine take_ (i := 0) (N := some 25) (v := ?_) (a' := ?_) #[true, false, false, false, false, false, false, false, false, false, false, false] rfl rfl (take_ofW HT_.out HW_.out (by kernel_rfl)) (fun _ _ _ h => h) (Or.inl ⟨by rfl, ?_⟩) hHeld ?_ ?_
    rotate_left
    · rintro w' hS
      have s2 := (hS.cell (p := ⟨w.heap.size, 2, none⟩) HLT.out).trans HQ.out
      clear hS
      go_simp
      with_reducible rfl
    rotate_left
    · simp only [Act.put, List.setIfInBounds_toArray, List.set_cons_zero, List.set_cons_succ, i64_w, i32_w]
      rfl
    refine take_ (i := 1) (N := some 26) (v := ?_) (a' := ?_) #[true, true, false, false, false, false, false, false, false, false, false, false] rfl rfl (take_ofW HT_.out HW_.out (by kernel_rfl)) (fun _ _ _ h => h) (Or.inl ⟨by rfl, ?_⟩) hHeld ?_ ?_
    rotate_left
    · rintro w' hS
      have s2 := (hS.cell (p := ⟨w.heap.size, 2, none⟩) HLT.out).trans HQ.out
      clear hS
      go_simp
      with_reducible rfl
    rotate_left
    · simp only [Act.put, List.setIfInBounds_toArray, List.set_cons_zero, List.set_cons_succ, i64_w, i32_w]
      rfl
    refine take_ (i := 2) (N := some 27) (v := ?_) (a' := ?_) #[true, true, true, false, false, false, false, false, false, false, false, false] rfl rfl (take_ofW HT_.out HW_.out (by kernel_rfl)) (fun _ _ _ h => h) (Or.inl ⟨by rfl, ?_⟩) hHeld ?_ ?_
    rotate_left
    · rintro w' hS
      have s2 := (hS.cell (p := ⟨w.heap.size, 2, none⟩) HLT.out).trans HQ.out
      clear hS
      go_simp
      with_reducible rfl
    rotate_left
    · simp only [Act.put, List.setIfInBounds_toArray, List.set_cons_zero, List.set_cons_succ, i64_w, i32_w]
      rfl
    refine take_ (i := 3) (N := some 28) (v := ?_) (a' := ?_) #[true, true, true, true, false, false, false, false, false, false, false, false] rfl rfl (take_ofW HT_.out HW_.out (by kernel_rfl)) (fun _ _ _ h => h) (Or.inl ⟨by rfl, ?_⟩) hHeld ?_ ?_
    rotate_left
    · rintro w' hS
      have s2 := (hS.cell (p := ⟨w.heap.size, 2, none⟩) HLT.out).trans HQ.out
      clear hS
      go_simp
      with_reducible rfl
    rotate_left
    · simp only [Act.put, List.setIfInBounds_toArray, List.set_cons_zero, List.set_cons_succ, i64_w, i32_w]
      rfl
    refine take_ (i := 4) (N := some 29) (v := ?_) (a' := ?_) #[true, true, true, true, true, false, false, false, false, false, false, false] rfl rfl (take_ofW HT_.out HW_.out (by kernel_rfl)) (fun _ _ _ h => h) (Or.inl ⟨by rfl, ?_⟩) hHeld ?_ ?_
    rotate_left
    · rintro w' hS
      have s2 := (hS.cell (p := ⟨w.heap.size, 2, none⟩) HLT.out).trans HQ.out
      clear hS
      go_simp
      with_reducible rfl
    rotate_left
    · simp only [Act.put, List.setIfInBounds_toArray, List.set_cons_zero, List.set_cons_succ, i64_w, i32_w]
      rfl
    refine take_ (i := 6) (N := some 31) (v := ?_) (a' := ?_) #[true, true, true, true, true, false, true, false, false, false, false, false] rfl rfl (take_ofW HT_.out HW_.out (by kernel_rfl)) (fun _ _ _ h => h) (Or.inl ⟨by rfl, ?_⟩) hHeld ?_ ?_
    rotate_left
    · rintro w' hS
      refine (run_loadRow 88 (.tmp 10) rfl gh rfl 88 cs (0, 0) _ ((hS.block gh (blk_lt HROW.out)).trans HROW.out) Try.underlying88 rfl (by rw [HSZ.out]; exact size88)).trans (by with_reducible rfl)
    rotate_left
    · simp only [Act.put, List.setIfInBounds_toArray, List.set_cons_zero, List.set_cons_succ, i64_w, i32_w]
      rfl
    refine take_ (i := 7) (N := some 32) (v := ?_) (a' := ?_) #[true, true, true, true, true, false, true, true, false, false, false, false] rfl rfl (take_ofW HT_.out HW_.out (by kernel_rfl)) (fun _ _ _ h => h) (Or.inl ⟨by rfl, ?_⟩) hHeld ?_ ?_
    rotate_left
    · rintro w' hS
      have s2 := (hS.cell (p := ⟨w.heap.size, 2, none⟩) HLT.out).trans HQ.out
      clear hS
      go_simp
      with_reducible rfl
    rotate_left
    · simp only [Act.put, List.setIfInBounds_toArray, List.set_cons_zero, List.set_cons_succ, i64_w, i32_w]
      rfl
    refine one_ (i := 5) (N := some 30) #[true, true, true, true, true, true, true, true, false, false, false, false] rfl rfl (one_of HT_.out (by kernel_rfl)) (by decide) (fun K hK => ?_)
    refine goes_ Try.func53 (by kernel_rfl) rfl #[.slice (some ⟨gh, 3, none⟩) l.length 14] (by rfl) rfl rfl (by (try simp only [List.map_toArray, List.map_cons, List.map_nil]); first | done | rfl) ?_
    refine (clone8_calls ⟨gh, 3, none⟩ l.length 14 (b.map (·.1)) _ (Kd.C_below HDID.out hHeld) (by have := HLE.out; omega)).mono ?_
    rintro e w6 ⟨v6, rfl, hr6, hb6⟩
    have HV6 := Aside0.mk (Kd.R_lower hr6 hHeld.size)
    refine ⟨_, rfl, hK.out _ _ (hHeld.trans (hb6.mono hHeld.size)) ?_⟩
    clear hHeld hb6 hr6
    intro hHeld
    clear hK K
    refine norm_ (a' := ?_) ?_ ?_
    rotate_left
    · show Act.put _ (some 30) _ = _
      simp only [Act.put, List.setIfInBounds_toArray, List.set_cons_zero, List.set_cons_succ, i64_w, i32_w]
      rfl
    refine one_ (i := 8) (N := some 33) #[true, true, true, true, true, true, true, true, true, false, false, false] rfl rfl (one_of HT_.out (by kernel_rfl)) (by decide) (fun K hK => ?_)
    refine goes_ Try.func54 (by kernel_rfl) rfl #[v, .bool high] (by rfl) rfl rfl (by (try simp only [List.map_toArray, List.map_cons, List.map_nil]); rw [← HV2.out]; first | done | rfl) ?_
    refine (LC.out _).mono ?_
    rintro e w7 ⟨v7, rfl, hr7, hb7⟩
    have HV7 := Aside0.mk (Kd.R_lower hr7 hHeld.size)
    replace HV6 := Aside0.mk (Kd.R_below HV6.out hb7)
    refine ⟨_, rfl, hK.out _ _ (hHeld.trans (hb7.mono hHeld.size)) ?_⟩
    clear hHeld hb7 hr7
    intro hHeld
    clear hK K
    refine norm_ (a' := ?_) ?_ ?_
    rotate_left
    · show Act.put _ (some 33) _ = _
      simp only [Act.put, List.setIfInBounds_toArray, List.set_cons_zero, List.set_cons_succ, i64_w, i32_w]
      rfl
    refine take_ (i := 9) (N := some 6) (v := ?_) (a' := ?_) #[true, true, true, true, true, true, true, true, true, true, false, false] rfl rfl (take_ofW HT_.out HW_.out (by kernel_rfl)) (fun _ _ _ h => h) (Or.inl ⟨by rfl, ?_⟩) hHeld ?_ ?_
    rotate_left
    · rintro w' hS
      have s2 := (hS.cell (p := ⟨w.heap.size, 2, none⟩) HLT.out).trans HQ.out
      clear hS
      go_simp
      with_reducible rfl
    rotate_left
    · simp only [Act.put, List.setIfInBounds_toArray, List.set_cons_zero, List.set_cons_succ, i64_w, i32_w]
      rfl
    refine take_ (i := 10) (N := some 7) (v := ?_) (a' := ?_) #[true, true, true, true, true, true, true, true, true, true, true, false] rfl rfl (take_ofW HT_.out HW_.out (by kernel_rfl)) (fun _ _ _ h => h) (Or.inl ⟨by rfl, ?_⟩) hHeld ?_ ?_
    rotate_left
    · rintro w' hS
      have s2 := (hS.cell (p := ⟨w.heap.size, 2, none⟩) HLT.out).trans HQ.out
      clear hS
      go_simp
      with_reducible rfl
    rotate_left
    · simp only [Act.put, List.setIfInBounds_toArray, List.set_cons_zero, List.set_cons_succ, i64_w, i32_w]
      rfl
    refine take_ (i := 11) (N := some 8) (v := ?_) (a' := ?_) #[true, true, true, true, true, true, true, true, true, true, true, true] rfl rfl (take_ofW HT_.out HW_.out (by kernel_rfl)) (fun _ _ _ h => h) (Or.inl ⟨by rfl, ?_⟩) hHeld ?_ ?_
    rotate_left
    · rintro w' hS
      have s2 := (hS.cell (p := ⟨w.heap.size, 2, none⟩) HLT.out).trans HQ.out
      clear hS
      go_simp
      with_reducible rfl
    rotate_left
    · simp only [Act.put, List.setIfInBounds_toArray, List.set_cons_zero, List.set_cons_succ, i64_w, i32_w]
      rfl
    refine done_ (done_of HT_.out (by kernel_rfl)) ?_
    go_wp2_with fail
    refine bodyPost_ret (v := .tuple #[v6, v7, .int .i64 0]) (by simp [results, Try.results26, go_sem]) rfl ⟨v6, v7, by rw [HCK.out], ?_, ?_, HB5.out.trans (hHeld.mono HB5.out.size)⟩
    · rw [HE1.out]; exact Kd.R_lower HV6.out HB5.out.size
    · rw [HE2.out]; exact Kd.R_lower HV7.out HB5.out.size
  · have h0b : (ck == 0) = false := beq_eq_false_iff_ne.2 h0
    have h0c : (ck != 0) = true := bne_iff_ne.2 h0
    rw [if_neg h0] at HSR HSL
    go_wp2_with fail
    refine bodyPost_ret (v := .tuple #[.slice none 0 0, .slice none 0 0, .int .i64 ck]) (by simp [results, Try.results26, go_sem]) rfl ⟨_, _, by rw [HCK.out], ?_, ?_, HB2.out⟩
    · rw [HSR.out]; exact Kd.R_nil _ _ _ _ _
    · rw [HSL.out]; exact Kd.R_nil _ _ _ _ _
end Go.Proofs.Ytkglggggmlnleaa.Print
