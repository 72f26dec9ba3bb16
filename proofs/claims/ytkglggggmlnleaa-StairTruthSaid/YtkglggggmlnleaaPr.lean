/- Whether results are those of a history; lists copied. -/
import Derived.Test.YtkglggggmlnleaaC
import Derived.Test.YtkglggggmlnleaaPo
namespace Go.Proofs.Ytkglggggmlnleaa.Print
open Go.RowKit Go.Proofs.YtkglggggmlnleaaW.PrintWords Go.Proofs.YtkglggggmlnleaaW.PrintLast Go.Proofs.YtkglggggmlnleaaW.PrintMore
set_option linter.unusedVariables false
set_option linter.unusedSimpArgs false
def f32.T9 : Bool × List (List Nat × List Nat) := (true, [([], []), ([], []), ([0, 1], [0, 1]), ([2], [2]), ([3], [3]), ([], []), ([], []), ([4, 5, 6, 0], [4, 5, 6]), ([7, 7, 0, 1, 2, 3, 4, 5, 6, 7], [6, 7])])
def f32.B9 : List Nat := [0, 0, 3, 7, 15, 0, 0, 127, 255]
theorem f32.tab9 : rtab .any (opsOf Try.f32 9) = f32.T9 := by kernel_rfl
theorem f32.bits9 : waitsOk f32.T9.2 f32.B9 = true := by kernel_rfl
theorem bytes_calls (A : Option Addr) (c : Nat) (l : List Int) (w : World) (hr : Kd.C (Kd.int .u8) w A l.length l) (hc : l.length ≤ c) (hl : l.length ≤ 1000) :
    Calls Try.prog 33 #[.slice A l.length c] w fun e w' => ∃ v, e = .returned v ∧ Kd.R (Kd.int .u8) 5 w' w.heap.size (fun _ => True) v l ∧ Below w.heap.size w w' := by
  have HR := Aside0.mk hr
  clear hr
  go_enter Try.func33, Try.ntmps33
  go_wp2_with ((with_reducible refine gate_builtin (b := .append) (xs := #[.const (.slice none 0 0), .tmp 3]) rfl ?_); at_builtin; refine Kd.R_append_rows (Kd.int .u8) (w0 := w) w.heap.size rfl (.const (.slice none 0 0)) (.tmp 3) 41 5 (.int .u8 0) 1 rfl Try.underlying41 info5 rfl (by decide) (by omega) (.slice none 0 0) [] l _ _ _ (fun _ => True) (fun _ => False) rfl rfl (Kd.R_nil _ _ _ _ _) HR.out (fun _ _ h => h) (fun _ h => h.elim) (fun _ _ => trivial) (Below.refl _ _) (Nat.le_refl _) (by simp; omega) ?_; intro v1 w1 ho hb hg hat; have HO := Aside0.mk ho; have HB := Aside0.mk hb; clear ho hb hg hat)
  go_ret
  exact ⟨_, rfl, HO.out, HB.out⟩

/-- Are results those of a history, from a level on? -/
def walkB (L : Int) : Int → List S67 → List Int → Bool
  | l, x :: xs, r :: rs => decide (r < 3) && mayB x l r && walkB L (nxt L l r) xs rs
  | _, _, _ => true
def proveB (L st : Int) (l : List S67) (rs : List Int) : Bool := decide (checkI L st l = 0) && (decide (rs.length = l.length) && walkB L st l rs)
set_option maxHeartbeats 4000000 in
set_option maxRecDepth 100000 in
theorem prove_calls (L st : Int) (A : Option Addr) (c : Nat) (l : List S67) (A1 : Option Addr) (c1 : Nat) (rs : List Int) (w : World) (hr : Kd.C k67 w A l.length l) (hc : l.length ≤ c) (hr1 : Kd.C (Kd.int .u8) w A1 rs.length rs) (hc1 : rs.length ≤ c1) (hu : ∀ r ∈ rs, 0 ≤ r) :
    Calls Try.prog 32 #[.agg #[.int .i64 L, .int .i64 st, .slice A l.length c], .slice A1 rs.length c1] w fun e w' => e = .returned (.bool (proveB L st l rs)) ∧ Below w.heap.size w w' := by
  have hu34 := Try.underlying34
  have hu105 := Try.underlying105
  have hu108 := Try.underlying108
  have HR := Aside0.mk hr
  have HC := Aside0.mk hc
  have HR1 := Aside0.mk hr1
  clear hr hc hr1
  have HB1 : Aside0 (Below w.heap.size w (w.alloc (.cells #[.int .i64 L, .int .i64 st, .slice A l.length c] 34))) := ⟨(Below.refl _ w).alloc (by simp) _⟩
  go_enter Try.func32, Try.ntmps32
  go_wp2_with fail
  refine (check_calls L st A c l _ (Kd.C_below HR.out HB1.out) HC.out (Kd.C_max HR.out)).mono ?_
  rintro e w2 ⟨rfl, hb2⟩
  have HB2 := Aside0.mk (HB1.out.trans (hb2.mono HB1.out.size))
  have HX2 := Aside0.mk (blk_below (blk_new w (.cells #[.int .i64 L, .int .i64 st, .slice A l.length c] 34)) hb2)
  have q0 : w2.cell? ⟨w.heap.size, 0, none⟩ = some (.int .i64 L) := (blk_cell HX2.out 0).trans rfl
  have q1 : w2.cell? ⟨w.heap.size, 1, none⟩ = some (.int .i64 st) := (blk_cell HX2.out 1).trans rfl
  have q2 : w2.cell? ⟨w.heap.size, 2, none⟩ = some (.slice A l.length c) := (blk_cell HX2.out 2).trans rfl
  clear hb2
  obtain ⟨ck, hck⟩ : ∃ ck, checkI L st l = ck := ⟨_, rfl⟩
  rw [hck]
  have HCK := Aside0.mk hck
  clear hck
  by_cases h0 : ck = 0
  · subst h0
    obtain ⟨k1, k2, k3, k4, k5⟩ := check_ok HCK.out
    by_cases hn : rs.length = l.length
    · have hnb : ((rs.length : Int) == (l.length : Int)) = true := beq_iff_eq.2 (by omega)
      have hnc : ((rs.length : Int) != (l.length : Int)) = false := bne_eq_false_iff_eq.2 (by omega)
      have hnn : (rs.length == l.length) = true := beq_iff_eq.2 hn
      have hpr : proveB L st l rs = walkB L st l rs := by unfold proveB; rw [HCK.out]; simp [hn]
      have HPR := Aside0.mk hpr
      have HN := Aside0.mk hn
      clear hpr hn
      go_wp2_with fail
      go_loopw [5, 23] (fun lv j wr => ∃ (jn : Nat) (v : Int), jn ≤ rs.length ∧ j = .int .i64 jn ∧ lv = .int .i64 v ∧ 0 ≤ v ∧ v < L ∧ Aside0 (walkB L st l rs = walkB L v (l.drop jn) (rs.drop jn)) ∧ Aside0 (wr.heap[w.heap.size]? = some (.cells #[.int .i64 L, .int .i64 st, .slice A l.length c] 34 (0, 0))) ∧ Aside0 (Below w.heap.size w wr)) (fun _ j _ => rs.length - (intOf j).toNat)
      case atStart => exact ⟨0, st, by omega, rfl, rfl, k3, k4, ⟨rfl⟩, HX2, HB2⟩
      case round =>
        obtain ⟨jn, v, hj, rfl, rfl, hv0, hv1, hwk, hbx, hbw⟩ := hrel
        by_cases hj3 : jn < rs.length
        · have hj4 : (jn : Int) < (rs.length : Int) := by omega
          have hj5 : (0 : Int) ≤ (jn : Int) := by omega
          have hj6 : decide ((jn : Int) < (rs.length : Int)) = true := decide_eq_true hj4
          have hjl : jn < l.length := by have := HN.out; omega
          obtain ⟨ad, rfl, g0⟩ := Kd.at_int HR1.out (jn : Int) hj5 hj4
          have g0' := (hbw.out.cell (World.block_lt_of_cell? _ _ g0)).trans g0
          have g0 : wr.cell? (ad.add jn) = some (.int .u8 (rd rs jn)) := g0'
          have hrd : rd rs (jn : Int) = rs[jn] := by unfold rd; simp [List.getD_eq_getElem?_getD, hj3]
          obtain ⟨rn, hrr⟩ : ∃ rn : Nat, rs[jn] = (rn : Int) := ⟨rs[jn].toNat, by have := hu _ (List.getElem_mem hj3); omega⟩
          rw [hrd, hrr] at g0
          have q0 : wr.cell? ⟨w.heap.size, 0, none⟩ = some (.int .i64 L) := (blk_cell hbx.out 0).trans rfl
          have q1 : wr.cell? ⟨w.heap.size, 1, none⟩ = some (.int .i64 st) := (blk_cell hbx.out 1).trans rfl
          have q2 : wr.cell? ⟨w.heap.size, 2, none⟩ = some (.slice A l.length c) := (blk_cell hbx.out 2).trans rfl
          have HCw := Aside0.mk (Kd.C_below HR.out hbw.out)
          have hwk2 : walkB L v (l.drop jn) (rs.drop jn) = (decide ((rn : Int) < 3) && mayB l[jn] v rn && walkB L (nxt L v rn) (l.drop (jn + 1)) (rs.drop (jn + 1))) := by
            rw [List.drop_eq_getElem_cons hjl, List.drop_eq_getElem_cons hj3, hrr]; rfl
          have HW2 := Aside0.mk (hwk.out.trans hwk2)
          have HXK : Aside0 (l[jn]? = some l[jn]) := ⟨List.getElem?_eq_getElem hjl⟩
          obtain ⟨x, hx⟩ : ∃ x, l[jn] = x := ⟨_, rfl⟩
          rw [hx] at HW2 HXK
          clear hwk2 hrd hrr g0' hx
          by_cases h3 : (rn : Int) < 3
          · have h3b : decide (3 ≤ (rn : Int)) = false := decide_eq_false (by omega)
            obtain ⟨mb, hmb⟩ : ∃ mb, mayB x v rn = mb := ⟨_, rfl⟩
            have HMB := Aside0.mk hmb
            clear hmb
            cases mb with
            | true =>
              go_wp2_with (go_at_call 60; refine (may_calls L st A c l jn x v rn wr HCw.out HC.out HXK.out).mono ?_; rintro e w3 ⟨rfl, hb3⟩; have HB3 := Aside0.mk hb3; rw [HMB.out]; clear hb3)
              have HQ := Aside0.mk (And.intro ((HB3.out.cell (p := ⟨w.heap.size, 0, none⟩) (blk_lt hbx.out)).trans q0) (And.intro ((HB3.out.cell (p := ⟨w.heap.size, 1, none⟩) (blk_lt hbx.out)).trans q1) ((HB3.out.cell (p := ⟨w.heap.size, 2, none⟩) (blk_lt hbx.out)).trans q2)))
              have HLT : Aside0 (w.heap.size < w3.heap.size) := ⟨blk_lt (blk_below hbx.out HB3.out)⟩
              have H3N : Aside0 (rn < 3) := ⟨by omega⟩
              refine start_ (n := 9) (S := (Below w3.heap.size w3)) (ds := []) #[false, false, false, false, false, false, false, false, false] (by kernel_rfl) rfl rfl ((Below.refl _ _).drew) (fun hHeld => ?_)
              refine with_tabW f32.tab9 f32.bits9 (fun HT_ HW_ => ?_)
              refine take_ (i := 1) (N := some 40) (v := ?_) (a' := ?_) #[false, true, false, false, false, false, false, false, false] rfl rfl (take_ofW HT_.out HW_.out (by kernel_rfl)) (fun _ _ _ h => h) (Or.inl ⟨by rfl, ?_⟩) hHeld ?_ ?_
              rotate_left
              · rintro w' hS
                have s0 := (hS.cell (p := ⟨w.heap.size, 0, none⟩) HLT.out).trans HQ.out.1
                have s1 := (hS.cell (p := ⟨w.heap.size, 1, none⟩) HLT.out).trans HQ.out.2.1
                have s2 := (hS.cell (p := ⟨w.heap.size, 2, none⟩) HLT.out).trans HQ.out.2.2
                clear hS
                go_simp
                with_reducible rfl
              rotate_left
              · simp only [Act.put, List.setIfInBounds_toArray, List.set_cons_zero, List.set_cons_succ, i64_w, i32_w]
                rfl
              refine take_ (i := 5) (N := some 44) (v := ?_) (a' := ?_) #[false, true, false, false, false, true, false, false, false] rfl rfl (take_ofW HT_.out HW_.out (by kernel_rfl)) (fun _ _ _ h => h) (Or.inl ⟨by rfl, ?_⟩) hHeld ?_ ?_
              rotate_left
              · rintro w' hS
                have s0 := (hS.cell (p := ⟨w.heap.size, 0, none⟩) HLT.out).trans HQ.out.1
                have s1 := (hS.cell (p := ⟨w.heap.size, 1, none⟩) HLT.out).trans HQ.out.2.1
                have s2 := (hS.cell (p := ⟨w.heap.size, 2, none⟩) HLT.out).trans HQ.out.2.2
                clear hS
                go_simp
                with_reducible rfl
              rotate_left
              · simp only [Act.put, List.setIfInBounds_toArray, List.set_cons_zero, List.set_cons_succ, i64_w, i32_w]
                rfl
              refine take_ (i := 6) (N := some 45) (v := ?_) (a' := ?_) #[false, true, false, false, false, true, true, false, false] rfl rfl (take_ofW HT_.out HW_.out (by kernel_rfl)) (fun _ _ _ h => h) (Or.inl ⟨by rfl, ?_⟩) hHeld ?_ ?_
              rotate_left
              · rintro w' hS
                have s0 := (hS.cell (p := ⟨w.heap.size, 0, none⟩) HLT.out).trans HQ.out.1
                have s1 := (hS.cell (p := ⟨w.heap.size, 1, none⟩) HLT.out).trans HQ.out.2.1
                have s2 := (hS.cell (p := ⟨w.heap.size, 2, none⟩) HLT.out).trans HQ.out.2.2
                clear hS
                go_simp
                with_reducible rfl
              rotate_left
              · simp only [Act.put, List.setIfInBounds_toArray, List.set_cons_zero, List.set_cons_succ, i64_w, i32_w]
                rfl
              refine one_ (i := 0) (N := some 39) #[true, true, false, false, false, true, true, false, false] rfl rfl (one_of HT_.out (by kernel_rfl)) (by decide) (fun K hK => ?_)
              refine goes_ Try.func61 (by kernel_rfl) rfl #[] (by rfl) rfl rfl (by (try simp only [List.map_toArray, List.map_cons, List.map_nil]); first | done | rfl) ?_
              refine (moves_calls _).mono ?_
              rintro e w4 ⟨g, rfl, hg, hmv, hb4⟩
              have HG := Aside0.mk hmv
              refine ⟨_, rfl, hK.out _ _ (hHeld.trans (hb4.mono hHeld.size)) ?_⟩
              clear hHeld hb4 hmv hg
              intro hHeld
              clear hK K
              refine norm_ (a' := ?_) ?_ ?_
              rotate_left
              · show Act.put _ (some 39) _ = _
                simp only [Act.put, List.setIfInBounds_toArray, List.set_cons_zero, List.set_cons_succ, i64_w, i32_w]
                rfl
              refine take_ (i := 2) (N := some 41) (v := ?_) (a' := ?_) #[true, true, true, false, false, true, true, false, false] rfl rfl (take_ofW HT_.out HW_.out (by kernel_rfl)) (fun _ _ _ h => h) (Or.inl ⟨by rfl, ?_⟩) hHeld ?_ ?_
              rotate_left
              · rintro w' hS
                have s0 := (hS.cell (p := ⟨w.heap.size, 0, none⟩) HLT.out).trans HQ.out.1
                have s1 := (hS.cell (p := ⟨w.heap.size, 1, none⟩) HLT.out).trans HQ.out.2.1
                have s2 := (hS.cell (p := ⟨w.heap.size, 2, none⟩) HLT.out).trans HQ.out.2.2
                clear hS
                go_simp
                with_reducible rfl
              rotate_left
              · simp only [Act.put, List.setIfInBounds_toArray, List.set_cons_zero, List.set_cons_succ, i64_w, i32_w]
                rfl
              refine take_ (i := 3) (N := some 42) (v := ?_) (a' := ?_) #[true, true, true, true, false, true, true, false, false] rfl rfl (take_ofW HT_.out HW_.out (by kernel_rfl)) (fun _ _ _ h => h) (Or.inl ⟨by rfl, ?_⟩) hHeld ?_ ?_
              rotate_left
              · rintro w' hS
                have s0 := (hS.cell (p := ⟨w.heap.size, 0, none⟩) HLT.out).trans HQ.out.1
                have s1 := (hS.cell (p := ⟨w.heap.size, 1, none⟩) HLT.out).trans HQ.out.2.1
                have s2 := (hS.cell (p := ⟨w.heap.size, 2, none⟩) HLT.out).trans HQ.out.2.2
                clear hS
                go_simp
                with_reducible rfl
              rotate_left
              · simp only [Act.put, List.setIfInBounds_toArray, List.set_cons_zero, List.set_cons_succ, i64_w, i32_w]
                rfl
              refine one_ (i := 4) (N := some 43) #[true, true, true, true, true, true, true, false, false] rfl rfl (one_of HT_.out (by kernel_rfl)) (by decide) (fun K hK => ?_)
              have hg4 : w4.cell? ⟨g, rn, none⟩ = some (.func (.func (77 + rn)) #[] #[]) := by
                refine (blk_cell HG.out rn).trans ?_
                match rn, H3N.out with
                | 0, _ => rfl
                | 1, _ => rfl
                | 2, _ => rfl
              refine value_ (v := .func (.func (77 + rn)) #[] #[]) (w1 := w4) (by rfl) rfl (by go_simp) ?_
              refine hK.out _ _ hHeld ?_
              clear hHeld hg4
              intro hHeld
              clear hK K
              refine norm_ (a' := ?_) ?_ ?_
              rotate_left
              · show Act.put _ (some 43) _ = _
                simp only [Act.put, List.setIfInBounds_toArray, List.set_cons_zero, List.set_cons_succ, i64_w, i32_w]
                rfl
              refine one_ (i := 7) (N := some 46) #[true, true, true, true, true, true, true, true, false] rfl rfl (one_of HT_.out (by kernel_rfl)) (by decide) (fun K hK => ?_)
              refine callv_ (t := 43) (fn := _) (hf77 rn H3N.out) (hn77 rn H3N.out) (hb77 rn H3N.out) #[.agg #[.int .i64 L, .int .i64 st, .slice A l.length c], .int .i64 v] (by rfl) rfl rfl rfl (by simp [Act.eval]) ?_
              refine (to_calls rn H3N.out L st A c l v _ (Kd.C_below HCw.out (HB3.out.trans (hHeld.mono HB3.out.size))) HC.out k2 k1 hv0 hv1).mono ?_
              rintro e w6 ⟨rfl, hb6⟩
              refine ⟨_, rfl, hK.out _ _ (hHeld.trans (hb6.mono hHeld.size)) ?_⟩
              clear hHeld hb6
              intro hHeld
              clear hK K
              refine norm_ (a' := ?_) ?_ ?_
              rotate_left
              · show Act.put _ (some 46) _ = _
                simp only [Act.put, List.setIfInBounds_toArray, List.set_cons_zero, List.set_cons_succ, i64_w, i32_w]
                rfl
              refine take_ (i := 8) (N := some 5) (v := ?_) (a' := ?_) #[true, true, true, true, true, true, true, true, true] rfl rfl (take_ofW HT_.out HW_.out (by kernel_rfl)) (fun _ _ _ h => h) (Or.inl ⟨by rfl, ?_⟩) hHeld ?_ ?_
              rotate_left
              · rintro w' hS
                have s0 := (hS.cell (p := ⟨w.heap.size, 0, none⟩) HLT.out).trans HQ.out.1
                have s1 := (hS.cell (p := ⟨w.heap.size, 1, none⟩) HLT.out).trans HQ.out.2.1
                have s2 := (hS.cell (p := ⟨w.heap.size, 2, none⟩) HLT.out).trans HQ.out.2.2
                clear hS
                go_simp
                with_reducible rfl
              rotate_left
              · simp only [Act.put, List.setIfInBounds_toArray, List.set_cons_zero, List.set_cons_succ, i64_w, i32_w]
                rfl
              refine done_ (done_of HT_.out (by kernel_rfl)) ?_
              go_wp2_with fail
              go_roundw
              case rel =>
                have hnx := nxt_range (L := L) (l := v) (r := rn) hv0 hv1
                have HBH := HB3.out.trans (hHeld.mono HB3.out.size)
                refine ⟨jn + 1, nxt L v rn, by omega, by push_cast; first | rfl | go_num, rfl, hnx.1, hnx.2, ⟨?_⟩, ⟨blk_below hbx.out HBH⟩, ⟨hbw.out.trans (HBH.mono hbw.out.size)⟩⟩
                rw [HW2.out, HMB.out, decide_eq_true (by omega)]
                simp
              case measure => simp [intOf]; omega
            | false =>
              go_wp2_with (go_at_call 60; refine (may_calls L st A c l jn x v rn wr HCw.out HC.out HXK.out).mono ?_; rintro e w3 ⟨rfl, hb3⟩; have HB3 := Aside0.mk hb3; rw [HMB.out]; clear hb3)
              first | rw [Exit.noGoto_ret] | skip
              go_ret
              refine ⟨?_, hbw.out.trans (HB3.out.mono hbw.out.size)⟩
              rw [HPR.out, HW2.out, HMB.out]
              simp
          · have h3b : decide (3 ≤ (rn : Int)) = true := decide_eq_true (by omega)
            have H3 := Aside0.mk h3
            clear h3
            go_wp2_with fail
            first | rw [Exit.noGoto_ret] | skip
            go_ret
            refine ⟨?_, hbw.out⟩
            have e : decide ((rn : Int) < 3) = false := decide_eq_false (by have := H3.out; omega)
            rw [HPR.out, HW2.out, e]
            simp
        · have hj4 : (rs.length : Int) ≤ (jn : Int) := by omega
          have hj6 : decide ((jn : Int) < (rs.length : Int)) = false := decide_eq_false (by omega)
          go_wp2_with fail
          first | rw [Exit.noGoto_ret] | skip
          go_ret
          refine ⟨?_, hbw.out⟩
          rw [HPR.out, hwk.out, List.drop_of_length_le (show l.length ≤ jn by have := HN.out; omega)]
          simp [walkB]
    · have hnb : ((rs.length : Int) == (l.length : Int)) = false := beq_eq_false_iff_ne.2 (by omega)
      have hnc : ((rs.length : Int) != (l.length : Int)) = true := bne_iff_ne.2 (by omega)
      have hnn : (rs.length == l.length) = false := beq_eq_false_iff_ne.2 hn
      have hpr : proveB L st l rs = false := by unfold proveB; simp [hn]
      have HPR := Aside0.mk hpr
      clear hpr hn
      go_wp2_with fail
      first | rw [Exit.noGoto_ret] | skip
      go_ret
      exact ⟨by rw [HPR.out]; rfl, HB2.out⟩
  · have h0b : (ck == 0) = false := beq_eq_false_iff_ne.2 h0
    have h0c : (ck != 0) = true := bne_iff_ne.2 h0
    have hpr : proveB L st l rs = false := by unfold proveB; rw [HCK.out]; simp [h0]
    have HPR := Aside0.mk hpr
    clear hpr
    go_wp2_with fail
    first | rw [Exit.noGoto_ret] | skip
    go_ret
    exact ⟨by rw [HPR.out]; rfl, HB2.out⟩
end Go.Proofs.Ytkglggggmlnleaa.Print
