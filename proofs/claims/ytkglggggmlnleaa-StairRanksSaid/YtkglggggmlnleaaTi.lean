/- What a truth is, as the document says it. -/
import Derived.Test.YtkglggggmlnleaaTr
namespace Go.Proofs.Ytkglggggmlnleaa.Print
open Go.RowKit Go.Proofs.YtkglggggmlnleaaW.PrintWords Go.Proofs.YtkglggggmlnleaaW.PrintLast Go.Proofs.YtkglggggmlnleaaW.PrintMore
set_option linter.unusedVariables false
set_option linter.unusedSimpArgs false
def f29.T7 : Bool × List (List Nat × List Nat) := (true, [([], []), ([0], [0]), ([], []), ([], []), ([2, 3], [2, 3]), ([4], [4]), ([], []), ([], []), ([6, 7], [6, 7]), ([8], [8]), ([1, 5, 9], [1, 5, 9]), ([], []), ([11, 10, 10, 0, 1, 2, 3, 4, 5, 6, 7, 8, 9, 10, 11], [10, 11])])
def f29.B7 : List Nat := [0, 1, 0, 0, 12, 28, 0, 0, 192, 448, 1023, 0, 4095]
theorem f29.tab7 : rtab .any (opsOf Try.f29 7) = f29.T7 := by kernel_rfl
theorem f29.bits7 : waitsOk f29.T7.2 f29.B7 = true := by kernel_rfl

theorem histOf_get (L : Int) : ∀ (rs : List Int) (l : Int) (j : Nat) (hj : j < rs.length), (histOf L l rs)[j]? = some (rs[j], aft L l (rs.take j))
  | [], l, j, h => by simp at h
  | r :: rs, l, 0, h => by simp [histOf, aft]
  | r :: rs, l, j + 1, h => by
    simp only [histOf, List.getElem?_cons_succ, List.take_succ_cons, aft, List.getElem_cons_succ]
    exact histOf_get L rs _ j (by simpa using h)
set_option maxHeartbeats 4000000 in
set_option maxRecDepth 100000 in
theorem istruth_calls (L st : Int) (A : Option Addr) (c : Nat) (l : List S43) (A1 : Option Addr) (c1 : Nat) (rs : List Int) (A2 : Option Addr) (c2 : Nat) (ts : List Int) (w : World) (hr : Kd.C k43 w A l.length l) (hc : l.length ≤ c) (hr1 : Kd.C (Kd.int .u8) w A1 rs.length rs) (hr2 : Kd.C (Kd.int .i64) w A2 ts.length ts)
    (hL : L ≤ 8) (h0 : 0 ≤ st) (h1 : st < L) (hl : l.length ≤ 1000) (hx : ∀ x ∈ l, -1 ≤ x.f0) (hrs : rs.length = l.length) (hts : ts.length = l.length) (hw : walkB L st (l.map up) rs = true)
    (hb : ∀ (i : Nat) (p : Int × Int) (x : Int), (histOf L st rs)[i]? = some p → ts[i]? = some x → limit L false p ≤ x ∧ x ≤ limit L true p) :
    Calls Try.prog 29 #[.agg #[.int .i64 L, .int .i64 st, .slice A l.length c], .slice A1 rs.length c1, .slice A2 ts.length c2] w fun e w' => e = .returned (.bool true) ∧ Below w.heap.size w w' := by
  have hu24 := Try.underlying24
  have hu97 := Try.underlying97
  have HR := Aside0.mk hr
  have HR1 := Aside0.mk hr1
  have HR2 := Aside0.mk hr2
  have HX := Aside0.mk hx
  have HWK : Aside0 ((decide (rs.length = l.length) && walkB L st (l.map up) rs) = true) := ⟨by rw [hw, hrs]; simp⟩
  have HBD := Aside0.mk hb
  have HN1 := Aside0.mk hrs
  have HN2 : Aside0 (ts.length = rs.length) := ⟨by omega⟩
  have n1 : ((ts.length : Int) == (rs.length : Int)) = true := beq_iff_eq.2 (by omega)
  have n2 : ((ts.length : Int) != (rs.length : Int)) = false := bne_eq_false_iff_eq.2 (by omega)
  have n3 : (ts.length == rs.length) = true := beq_iff_eq.2 (by omega)
  clear hr hr1 hr2 hx hb hw hrs hts
  have KB : Aside0 (Below w.heap.size w (w.alloc (.cells #[.int .i64 L, .int .i64 st, .slice A l.length c] 24))) := ⟨(Below.refl _ w).alloc (by simp) _⟩
  have KX := Aside0.mk (blk_new w (.cells #[.int .i64 L, .int .i64 st, .slice A l.length c] 24))
  go_enter Try.func29, Try.ntmps29
  go_wp2_with fail
  refine (ishist_calls L st A c l A1 c1 rs _ (Kd.C_below HR.out KB.out) hc (Kd.C_below HR1.out KB.out) hL h0 h1 hl HX.out true HWK.out).mono ?_
  rintro e w1 ⟨rfl, hb1⟩
  replace KB := Aside0.mk (KB.out.trans (hb1.mono KB.out.size))
  replace KX := Aside0.mk (blk_below KX.out hb1)
  have q0 : w1.cell? ⟨w.heap.size, 0, none⟩ = some (.int .i64 L) := (blk_cell KX.out 0).trans rfl
  have q1 : w1.cell? ⟨w.heap.size, 1, none⟩ = some (.int .i64 st) := (blk_cell KX.out 1).trans rfl
  clear hb1
  go_wp2_with fail
  refine (levels_calls L st A1 c1 rs _ (Kd.C_below HR1.out KB.out) hL h0 h1 (by have := HN1.out; omega)).mono ?_
  rintro e w2 ⟨v2, rfl, hR2, hb2⟩
  obtain ⟨A3, c3, rfl, hc3, hC3⟩ := Kd.R_reads hR2
  rw [lvls_len] at hC3 ⊢
  have HC3 := Aside0.mk (show Kd.C (Kd.int .i64) w2 A3 (lvls L st rs).length (lvls L st rs) by rw [lvls_len]; exact hC3)
  replace KX := Aside0.mk (blk_below KX.out hb2)
  replace KB := Aside0.mk (KB.out.trans (hb2.mono KB.out.size))
  clear hR2 hc3 hC3 hb2 q0 q1
  go_wp2_with fail
  go_loopw [8] (fun j wr => ∃ jn : Nat, jn ≤ ts.length ∧ j = .int .i64 jn ∧ Aside0 (Below w2.heap.size w2 wr)) (fun j _ => ts.length - (intOf j).toNat)
  case atStart => exact ⟨0, by omega, rfl, ⟨Below.refl _ _⟩⟩
  case round =>
    obtain ⟨jn, hj, rfl, hbw⟩ := hrel
    have HKr := Aside0.mk (blk_below KX.out hbw.out)
    have HWr := Aside0.mk (KB.out.trans (hbw.out.mono KB.out.size))
    by_cases hj3 : jn < ts.length
    · have hj6 : decide ((jn : Int) < (ts.length : Int)) = true := decide_eq_true (by omega)
      have hj7 : (jn : Int) < (ts.length : Int) := by omega
      have hjr : jn < rs.length := by have := HN2.out; omega
      have hjr7 : (jn : Int) < (rs.length : Int) := by omega
      have hjb : (jn : Int) < 1000000 := by have := HN1.out; omega
      obtain ⟨ad1, rfl, g2⟩ := cellU (Kd.C_below HR1.out HWr.out) jn hjr
      obtain ⟨ad2, rfl, g1⟩ := cellU (Kd.C_below HR2.out HWr.out) jn hj3
      obtain ⟨ad3, rfl, g3⟩ := cellU (Kd.C_below HC3.out hbw.out) jn (by rw [lvls_len]; exact hjr)
      have hlv : (lvls L st rs)[jn]'(by rw [lvls_len]; exact hjr) = aft L st (rs.take jn) := by
        have := lvls_get L rs st jn hjr
        rw [List.getElem?_eq_getElem (by rw [lvls_len]; exact hjr)] at this
        exact Option.some.inj this
      rw [hlv] at g3
      have hav := aft_range (L := L) (rs.take jn) st h0 h1
      have hbd := HBD.out jn _ ts[jn] (histOf_get L rs st jn hjr) (List.getElem?_eq_getElem hj3)
      obtain ⟨av, hav2⟩ : ∃ av, aft L st (rs.take jn) = av := ⟨_, rfl⟩
      obtain ⟨rv, hrv⟩ : ∃ rv, rs[jn] = rv := ⟨_, rfl⟩
      obtain ⟨tv, htv⟩ : ∃ tv, ts[jn] = tv := ⟨_, rfl⟩
      rw [hav2] at g3 hav hbd
      rw [hrv] at g2 hbd
      rw [htv] at g1 hbd
      have BND := Aside0.mk (fun W : World => bounds_calls L av rv W hL hav.1 hav.2)
      have hlo : limit L false (rv, av) = (bnd L (rv, av)).1 := rfl
      have hhi : limit L true (rv, av) = (bnd L (rv, av)).2 := rfl
      rw [hlo, hhi] at hbd
      obtain ⟨lo, hlo2⟩ : ∃ lo, (bnd L (rv, av)).1 = lo := ⟨_, rfl⟩
      obtain ⟨hi, hhi2⟩ : ∃ hi, (bnd L (rv, av)).2 = hi := ⟨_, rfl⟩
      rw [hlo2, hhi2] at hbd BND
      have I3 := Aside0.mk (show (decide (lo ≤ tv) && decide (tv ≤ hi)) = true by simp; exact hbd)
      have HQ := Aside0.mk (And.intro ((blk_cell HKr.out 0).trans rfl : wr.cell? ⟨w.heap.size, 0, none⟩ = some (.int .i64 L)) (And.intro g3 g2))
      have HLT := Aside0.mk (And.intro (blk_lt HKr.out) (And.intro (World.block_lt_of_cell? _ _ g3) (World.block_lt_of_cell? _ _ g2)))
      have G1 := Aside0.mk g1
      clear hlv hav hav2 hrv htv hbd hlo hhi hlo2 hhi2 g1 g2 g3
      go_wp2_with fail
      refine start_ (n := 13) (S := (Below wr.heap.size wr)) (ds := [12]) #[false, false, false, false, false, false, false, false, false, false, false, false, false] (by kernel_rfl) rfl rfl ((Below.refl _ _).drew) (fun hHeld => ?_)
      refine with_tabW f29.tab7 f29.bits7 (fun HT_ HW_ => ?_)
      refine take_ (i := 0) (N := some 33) (v := ?_) (a' := ?_) #[true, false, false, false, false, false, false, false, false, false, false, false, false] rfl rfl (take_ofW HT_.out HW_.out (by kernel_rfl)) (fun _ _ _ h => h) (Or.inl ⟨by rfl, ?_⟩) hHeld ?_ ?_
      rotate_left
      · rintro w' hS
        have s0 := (hS.cell (p := ⟨w.heap.size, 0, none⟩) HLT.out.1).trans HQ.out.1
        have s1 := (hS.cell HLT.out.2.1).trans HQ.out.2.1
        have s2 := (hS.cell HLT.out.2.2).trans HQ.out.2.2
        clear hS
        go_simp
        with_reducible rfl
      rotate_left
      · simp only [Act.put, List.setIfInBounds_toArray, List.set_cons_zero, List.set_cons_succ, i64_w, i32_w]
        rfl
      refine take_ (i := 1) (N := some 34) (v := ?_) (a' := ?_) #[true, true, false, false, false, false, false, false, false, false, false, false, false] rfl rfl (take_ofW HT_.out HW_.out (by kernel_rfl)) (fun _ _ _ h => h) (Or.inl ⟨by rfl, ?_⟩) hHeld ?_ ?_
      rotate_left
      · rintro w' hS
        have s0 := (hS.cell (p := ⟨w.heap.size, 0, none⟩) HLT.out.1).trans HQ.out.1
        have s1 := (hS.cell HLT.out.2.1).trans HQ.out.2.1
        have s2 := (hS.cell HLT.out.2.2).trans HQ.out.2.2
        clear hS
        go_simp
        with_reducible rfl
      rotate_left
      · simp only [Act.put, List.setIfInBounds_toArray, List.set_cons_zero, List.set_cons_succ, i64_w, i32_w]
        rfl
      refine take_ (i := 2) (N := some 35) (v := ?_) (a' := ?_) #[true, true, true, false, false, false, false, false, false, false, false, false, false] rfl rfl (take_ofW HT_.out HW_.out (by kernel_rfl)) (fun _ _ _ h => h) (Or.inl ⟨by rfl, ?_⟩) hHeld ?_ ?_
      rotate_left
      · rintro w' hS
        have s0 := (hS.cell (p := ⟨w.heap.size, 0, none⟩) HLT.out.1).trans HQ.out.1
        have s1 := (hS.cell HLT.out.2.1).trans HQ.out.2.1
        have s2 := (hS.cell HLT.out.2.2).trans HQ.out.2.2
        clear hS
        go_simp
        with_reducible rfl
      rotate_left
      · simp only [Act.put, List.setIfInBounds_toArray, List.set_cons_zero, List.set_cons_succ, i64_w, i32_w]
        rfl
      refine take_ (i := 3) (N := some 36) (v := ?_) (a' := ?_) #[true, true, true, true, false, false, false, false, false, false, false, false, false] rfl rfl (take_ofW HT_.out HW_.out (by kernel_rfl)) (fun _ _ _ h => h) (Or.inl ⟨by rfl, ?_⟩) hHeld ?_ ?_
      rotate_left
      · rintro w' hS
        have s0 := (hS.cell (p := ⟨w.heap.size, 0, none⟩) HLT.out.1).trans HQ.out.1
        have s1 := (hS.cell HLT.out.2.1).trans HQ.out.2.1
        have s2 := (hS.cell HLT.out.2.2).trans HQ.out.2.2
        clear hS
        go_simp
        with_reducible rfl
      rotate_left
      · simp only [Act.put, List.setIfInBounds_toArray, List.set_cons_zero, List.set_cons_succ, i64_w, i32_w]
        rfl
      refine take_ (i := 4) (N := some 37) (v := ?_) (a' := ?_) #[true, true, true, true, true, false, false, false, false, false, false, false, false] rfl rfl (take_ofW HT_.out HW_.out (by kernel_rfl)) (fun _ _ _ h => h) (Or.inl ⟨by rfl, ?_⟩) hHeld ?_ ?_
      rotate_left
      · rintro w' hS
        have s0 := (hS.cell (p := ⟨w.heap.size, 0, none⟩) HLT.out.1).trans HQ.out.1
        have s1 := (hS.cell HLT.out.2.1).trans HQ.out.2.1
        have s2 := (hS.cell HLT.out.2.2).trans HQ.out.2.2
        clear hS
        go_simp
        with_reducible rfl
      rotate_left
      · simp only [Act.put, List.setIfInBounds_toArray, List.set_cons_zero, List.set_cons_succ, i64_w, i32_w]
        rfl
      refine take_ (i := 5) (N := some 38) (v := ?_) (a' := ?_) #[true, true, true, true, true, true, false, false, false, false, false, false, false] rfl rfl (take_ofW HT_.out HW_.out (by kernel_rfl)) (fun _ _ _ h => h) (Or.inl ⟨by rfl, ?_⟩) hHeld ?_ ?_
      rotate_left
      · rintro w' hS
        have s0 := (hS.cell (p := ⟨w.heap.size, 0, none⟩) HLT.out.1).trans HQ.out.1
        have s1 := (hS.cell HLT.out.2.1).trans HQ.out.2.1
        have s2 := (hS.cell HLT.out.2.2).trans HQ.out.2.2
        clear hS
        go_simp
        with_reducible rfl
      rotate_left
      · simp only [Act.put, List.setIfInBounds_toArray, List.set_cons_zero, List.set_cons_succ, i64_w, i32_w]
        rfl
      refine take_ (i := 6) (N := some 39) (v := ?_) (a' := ?_) #[true, true, true, true, true, true, true, false, false, false, false, false, false] rfl rfl (take_ofW HT_.out HW_.out (by kernel_rfl)) (fun _ _ _ h => h) (Or.inl ⟨by rfl, ?_⟩) hHeld ?_ ?_
      rotate_left
      · rintro w' hS
        have s0 := (hS.cell (p := ⟨w.heap.size, 0, none⟩) HLT.out.1).trans HQ.out.1
        have s1 := (hS.cell HLT.out.2.1).trans HQ.out.2.1
        have s2 := (hS.cell HLT.out.2.2).trans HQ.out.2.2
        clear hS
        go_simp
        with_reducible rfl
      rotate_left
      · simp only [Act.put, List.setIfInBounds_toArray, List.set_cons_zero, List.set_cons_succ, i64_w, i32_w]
        rfl
      refine take_ (i := 7) (N := some 40) (v := ?_) (a' := ?_) #[true, true, true, true, true, true, true, true, false, false, false, false, false] rfl rfl (take_ofW HT_.out HW_.out (by kernel_rfl)) (fun _ _ _ h => h) (Or.inl ⟨by rfl, ?_⟩) hHeld ?_ ?_
      rotate_left
      · rintro w' hS
        have s0 := (hS.cell (p := ⟨w.heap.size, 0, none⟩) HLT.out.1).trans HQ.out.1
        have s1 := (hS.cell HLT.out.2.1).trans HQ.out.2.1
        have s2 := (hS.cell HLT.out.2.2).trans HQ.out.2.2
        clear hS
        go_simp
        with_reducible rfl
      rotate_left
      · simp only [Act.put, List.setIfInBounds_toArray, List.set_cons_zero, List.set_cons_succ, i64_w, i32_w]
        rfl
      refine take_ (i := 8) (N := some 41) (v := ?_) (a' := ?_) #[true, true, true, true, true, true, true, true, true, false, false, false, false] rfl rfl (take_ofW HT_.out HW_.out (by kernel_rfl)) (fun _ _ _ h => h) (Or.inl ⟨by rfl, ?_⟩) hHeld ?_ ?_
      rotate_left
      · rintro w' hS
        have s0 := (hS.cell (p := ⟨w.heap.size, 0, none⟩) HLT.out.1).trans HQ.out.1
        have s1 := (hS.cell HLT.out.2.1).trans HQ.out.2.1
        have s2 := (hS.cell HLT.out.2.2).trans HQ.out.2.2
        clear hS
        go_simp
        with_reducible rfl
      rotate_left
      · simp only [Act.put, List.setIfInBounds_toArray, List.set_cons_zero, List.set_cons_succ, i64_w, i32_w]
        rfl
      refine take_ (i := 9) (N := some 42) (v := ?_) (a' := ?_) #[true, true, true, true, true, true, true, true, true, true, false, false, false] rfl rfl (take_ofW HT_.out HW_.out (by kernel_rfl)) (fun _ _ _ h => h) (Or.inl ⟨by rfl, ?_⟩) hHeld ?_ ?_
      rotate_left
      · rintro w' hS
        have s0 := (hS.cell (p := ⟨w.heap.size, 0, none⟩) HLT.out.1).trans HQ.out.1
        have s1 := (hS.cell HLT.out.2.1).trans HQ.out.2.1
        have s2 := (hS.cell HLT.out.2.2).trans HQ.out.2.2
        clear hS
        go_simp
        with_reducible rfl
      rotate_left
      · simp only [Act.put, List.setIfInBounds_toArray, List.set_cons_zero, List.set_cons_succ, i64_w, i32_w]
        rfl
      refine join_ (σ := Nat) 1 #[true, true, true, true, true, true, true, true, true, true, true, true, false] (fun s_ => [(43, .agg #[.int .i64 lo, .int .i64 hi]), (9, .pointer (some ⟨s_, 0, none⟩))]) (fun s_ w' => Below wr.heap.size wr w' ∧ w'.heap[s_]? = some (.cells #[.int .i64 0, .int .i64 0] 97 (0, 0)) ∧ wr.heap.size ≤ s_) ?_ ?_
      rotate_left
      · intro hCont
        refine two_ (i := 10) (j := 11) (Ni := some 43) (Nj := some 9) #[true, true, true, true, true, true, true, true, true, true, true, false, false] #[true, true, true, true, true, true, true, true, true, true, false, true, false] rfl rfl rfl rfl (two_of HT_.out (by kernel_rfl)) (by decide) (by decide) (fun K hK => ?_) (fun K hK => ?_)
        · refine goes_ Try.func56 (by kernel_rfl) rfl #[.int .i64 L, .int .i64 av, .int .u8 rv] (by rfl) rfl rfl (by (try simp only [List.map_toArray, List.map_cons, List.map_nil]); first | done | rfl) ?_
          refine (BND.out _).mono ?_
          rintro e w6 ⟨rfl, hb6⟩
          refine ⟨_, rfl, hK.out _ _ (hHeld.trans (hb6.mono hHeld.size)) ?_⟩
          clear hHeld hb6
          intro hHeld
          clear hK K
          refine norm_ (a' := ?_) ?_ ?_
          rotate_left
          · show Act.put _ (some 43) _ = _
            simp only [Act.put, List.setIfInBounds_toArray, List.set_cons_zero, List.set_cons_succ, i64_w, i32_w]
            rfl
          refine one_ (i := 11) (N := some 9) #[true, true, true, true, true, true, true, true, true, true, true, true, false] rfl rfl (one_of HT_.out (by kernel_rfl)) (by decide) (fun K hK => ?_)
          refine box_step ?hg (N := 9) ?hd (cs := #[.int .i64 0, .int .i64 0]) (t := 97) ?hr ?_; (case hd => rfl); (case hg => rfl); (case hr => first | (go_simp; done) | (go_simp; rfl))
          intro gb hgb w7 hbox hb7
          have GB := Aside0.mk (And.intro hbox (show wr.heap.size ≤ gb by rw [hgb]; exact hHeld.size))
          refine hK.out _ _ (hHeld.trans (hb7.mono hHeld.size)) ?_
          clear hHeld hbox hb7 hgb
          intro hHeld
          clear hK K
          refine norm_ (a' := ?_) ?_ ?_
          rotate_left
          · show Act.put _ (some 9) _ = _
            simp only [Act.put, List.setIfInBounds_toArray, List.set_cons_zero, List.set_cons_succ, i64_w, i32_w]
            rfl
          exact norm_ (by simp only [putAll, Act.put, List.setIfInBounds_toArray, List.set_cons_zero, List.set_cons_succ]) (hCont gb _ ⟨hHeld, GB.out.1, GB.out.2⟩)
        · refine box_step ?hg (N := 9) ?hd (cs := #[.int .i64 0, .int .i64 0]) (t := 97) ?hr ?_; (case hd => rfl); (case hg => rfl); (case hr => first | (go_simp; done) | (go_simp; rfl))
          intro gb hgb w7 hbox hb7
          have GB := Aside0.mk (And.intro hbox (show wr.heap.size ≤ gb by rw [hgb]; exact hHeld.size))
          refine hK.out _ _ (hHeld.trans (hb7.mono hHeld.size)) ?_
          clear hHeld hbox hb7 hgb
          intro hHeld
          clear hK K
          refine norm_ (a' := ?_) ?_ ?_
          rotate_left
          · show Act.put _ (some 9) _ = _
            simp only [Act.put, List.setIfInBounds_toArray, List.set_cons_zero, List.set_cons_succ, i64_w, i32_w]
            rfl
          refine one_ (i := 10) (N := some 43) #[true, true, true, true, true, true, true, true, true, true, true, true, false] rfl rfl (one_of HT_.out (by kernel_rfl)) (by decide) (fun K hK => ?_)
          refine goes_ Try.func56 (by kernel_rfl) rfl #[.int .i64 L, .int .i64 av, .int .u8 rv] (by rfl) rfl rfl (by (try simp only [List.map_toArray, List.map_cons, List.map_nil]); first | done | rfl) ?_
          refine (BND.out _).mono ?_
          rintro e w6 ⟨rfl, hb6⟩
          replace GB := Aside0.mk (And.intro (blk_below GB.out.1 hb6) GB.out.2)
          refine ⟨_, rfl, hK.out _ _ (hHeld.trans (hb6.mono hHeld.size)) ?_⟩
          clear hHeld hb6
          intro hHeld
          clear hK K
          refine norm_ (a' := ?_) ?_ ?_
          rotate_left
          · show Act.put _ (some 43) _ = _
            simp only [Act.put, List.setIfInBounds_toArray, List.set_cons_zero, List.set_cons_succ, i64_w, i32_w]
            rfl
          exact norm_ (by simp only [putAll, Act.put, List.setIfInBounds_toArray, List.set_cons_zero, List.set_cons_succ]) (hCont gb _ ⟨hHeld, GB.out.1, GB.out.2⟩)
      rintro gb w30 ⟨hHeld, hgb, hgl⟩
      have GB := Aside0.mk (And.intro hgb hgl)
      have HBG := Aside0.mk hHeld
      have t0 := (blk_cell hgb 0).trans rfl
      have t1 := (blk_cell hgb 1).trans rfl
      have t2 := blk_frozen hgb 0
      have t3 := blk_frozen hgb 1
      clear hgb hgl
      refine norm_ (a' := ?_) ?_ ?_
      rotate_left
      · simp only [putAll, Act.put, List.setIfInBounds_toArray, List.set_cons_zero, List.set_cons_succ]
        rfl
      refine last_ (i := 12) (N := none) #[true, true, true, true, true, true, true, true, true, true, true, true, true] rfl rfl (one_of HT_.out (by kernel_rfl)) (by decide) (fun K hK => ?_)
      refine skip_ (w1 := ?_) (by rfl) rfl ?_ ?_
      rotate_left
      · go_simp
        rfl
      refine hK.out _ _ ?_
      clear hK K
      refine done_ (done_of HT_.out (by kernel_rfl)) ?_
      have HBW : Aside0 (Below wr.heap.size wr ((w30.setCell ⟨gb, 0, none⟩ (.int .i64 lo)).setCell ⟨gb, 1, none⟩ (.int .i64 hi))) := ⟨below_set (below_set HBG.out GB.out.2) GB.out.2⟩
      have HGB := Aside0.mk (blk_put (blk_put GB.out.1 0 (.int .i64 lo) rfl) 1 (.int .i64 hi) rfl)
      go_wp2_with fail
      have t0 : ((w30.setCell ⟨gb, 0, none⟩ (.int .i64 lo)).setCell ⟨gb, 1, none⟩ (.int .i64 hi)).cell? ⟨gb, 0, none⟩ = some (.int .i64 lo) := (blk_cell HGB.out 0).trans rfl
      have t1 : ((w30.setCell ⟨gb, 0, none⟩ (.int .i64 lo)).setCell ⟨gb, 1, none⟩ (.int .i64 hi)).cell? ⟨gb, 1, none⟩ = some (.int .i64 hi) := (blk_cell HGB.out 1).trans rfl
      have g1 := (HBW.out.cell (World.block_lt_of_cell? _ _ G1.out)).trans G1.out
      generalize ((w30.setCell ⟨gb, 0, none⟩ (.int .i64 lo)).setCell ⟨gb, 1, none⟩ (.int .i64 hi)) = W at t0 t1 g1 HBW ⊢
      go_quiet ((with_reducible refine Calls.quiet_of (in_callsq tv lo hi true _ I3.out)))
      go_wp2_with fail
      go_roundw
      case rel => exact ⟨jn + 1, by omega, by go_num, ⟨hbw.out.trans ((pw_below_drewN HBW.out _).mono hbw.out.size)⟩⟩
      case measure => simp [intOf]; omega
    · have hj6 : decide ((jn : Int) < (ts.length : Int)) = false := decide_eq_false (by omega)
      go_wp2_with fail
      go_ret
      exact ⟨rfl, HWr.out⟩
end Go.Proofs.Ytkglggggmlnleaa.Print
