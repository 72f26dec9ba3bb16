/- The program's Shake. -/
import Derived.Test.YtkglggggmlnleaaSt
import Derived.Test.YtkglggggmlnleaaC
import Derived.Test.YtkglggggmlnleaaCk
import Derived.Test.YtkglggggmlnleaaSd
namespace Go.Proofs.Ytkglggggmlnleaa.Print
open Go.RowKit Go.Proofs.YtkglggggmlnleaaW.PrintWords Go.Proofs.YtkglggggmlnleaaW.PrintLast Go.Proofs.YtkglggggmlnleaaW.PrintMore
set_option linter.unusedVariables false
set_option linter.unusedSimpArgs false
def f36.T19 : Bool × List (List Nat × List Nat) := (true, [([], []), ([], []), ([0, 1], [0, 1]), ([2], [2]), ([3], [3]), ([], []), ([], []), ([4, 5, 6, 0], [4, 5, 6]), ([7, 7, 0, 1, 2, 3, 4, 5, 6, 7], [6, 7])])
def f36.B19 : List Nat := [0, 0, 3, 7, 15, 0, 0, 127, 255]
theorem f36.tab19 : rtab .any (opsOf Try.f36 19) = f36.T19 := by kernel_rfl
theorem f36.bits19 : waitsOk f36.T19.2 f36.B19 = true := by kernel_rfl

/-- The runs of a shaking. -/
def shakeR (L st : Int) (ls : List Int) (bs : List Bool) : List S43 := if shakeE L st ls bs.length = 0 then shakeZ L st (ls.zip bs) else []
theorem shakeR_n {L st : Int} {ls : List Int} {bs : List Bool} (h : shakeE L st ls bs.length ≠ 0) : shakeR L st ls bs = [] := by unfold shakeR; rw [if_neg h]
theorem shakeR_0 {L st : Int} {ls : List Int} {bs : List Bool} (h : shakeE L st ls bs.length = 0) : shakeR L st ls bs = shakeZ L st (ls.zip bs) := by unfold shakeR; rw [if_pos h]
theorem place_below (L st : Int) (b : Bool) (w : World) (h : (decide (1 ≤ L) && decide (L ≤ 8) && decide (0 ≤ st) && decide (st < L)) = b) : Calls Try.prog 57 #[.int .i64 L, .int .i64 st] w fun e w' => e = .returned (.bool b) ∧ Below w.heap.size w w' := by
  refine (stair_place.calls L st b w (by rw [place_f, h])).mono ?_
  rintro e w' ⟨rfl, hb⟩
  exact ⟨rfl, hb.below⟩
set_option maxHeartbeats 4000000 in
set_option maxRecDepth 100000 in
theorem shake_calls (L st : Int) (A : Option Addr) (c : Nat) (ls : List Int) (A1 : Option Addr) (c1 : Nat) (bs : List Bool) (w : World) (hr : Kd.C (Kd.int .i64) w A ls.length ls) (hr1 : Kd.C Kd.bool w A1 bs.length bs) (hl : ls.length ≤ 1000) :
    Calls Try.prog 36 #[.int .i64 L, .int .i64 st, .slice A ls.length c, .slice A1 bs.length c1] w fun e w' => ∃ v, e = .returned (.tuple #[v, .int .i64 (shakeE L st ls bs.length)]) ∧ Kd.R k67 67 w' w.heap.size (fun _ => True) v ((shakeR L st ls bs).map up) ∧ Below w.heap.size w w' := by
  have hu34 := Try.underlying34
  have hu67 := Try.underlying67
  have HR := Aside0.mk hr
  have HR1 := Aside0.mk hr1
  have HLE := Aside0.mk hl
  have KB : Aside0 (Below w.heap.size w (w.alloc (.cells #[.int .i64 L] 3))) := ⟨(Below.refl _ w).alloc (by simp) _⟩
  have X := Aside0.mk (blk_new w (.cells #[.int .i64 L] 3))
  obtain ⟨pb, hpb⟩ : ∃ pb, (decide (1 ≤ L) && decide (L ≤ 8) && decide (0 ≤ st) && decide (st < L)) = pb := ⟨_, rfl⟩
  have HPB := Aside0.mk hpb
  clear hr hr1 hl hpb
  go_enter Try.func36, Try.ntmps36
  go_wp2_with fail
  generalize w.alloc (.cells #[.int .i64 L] 3) = w0 at KB X ⊢
  have qX0 : w0.cell? ⟨w.heap.size, 0, none⟩ = some (.int .i64 L) := (blk_cell X.out 0).trans rfl
  have lX := blk_lt X.out
  refine (place_below L st pb _ HPB.out).mono ?_
  rintro e w1 ⟨rfl, hb1⟩
  clear qX0 lX
  replace KB := Aside0.mk (KB.out.trans (hb1.mono KB.out.size))
  replace X := Aside0.mk (blk_below X.out hb1)
  clear hb1
  have qX0 : w1.cell? ⟨w.heap.size, 0, none⟩ = some (.int .i64 L) := (blk_cell X.out 0).trans rfl
  have lX := blk_lt X.out
  cases pb with
  | false =>
    have HE : Aside0 (shakeE L st ls bs.length = 1) := ⟨by unfold shakeE; have := HPB.out; simp at this; rw [if_pos (by omega)]⟩
    go_wp2_with fail
    refine bodyPost_ret (v := .tuple #[.slice none 0 0, .int .i64 1]) (by simp [results, Try.f36, go_sem]) rfl ⟨_, by rw [HE.out], by rw [shakeR_n (by rw [HE.out]; decide)]; exact Kd.R_nil _ _ _ _ _, KB.out⟩
  | true =>
    have hp := HPB.out
    simp only [Bool.and_eq_true, decide_eq_true_eq] at hp
    have HL : Aside0 (1 ≤ L ∧ L ≤ 8) := ⟨by omega⟩
    have HS : Aside0 (0 ≤ st ∧ st < L) := ⟨by omega⟩
    clear hp HPB
    by_cases h14 : 14 < ls.length
    · have h14b : decide (14 < (ls.length : Int)) = true := decide_eq_true (by omega)
      have H14 := Aside0.mk h14
      clear h14
      have HE : Aside0 (shakeE L st ls bs.length = 3) := ⟨by unfold shakeE; have := HL.out; have := HS.out; rw [if_neg (by omega), if_pos H14.out]⟩
      go_wp2_with fail
      refine bodyPost_ret (v := .tuple #[.slice none 0 0, .int .i64 3]) (by simp [results, Try.f36, go_sem]) rfl ⟨_, by rw [HE.out], by rw [shakeR_n (by rw [HE.out]; decide)]; exact Kd.R_nil _ _ _ _ _, KB.out⟩
    · have h14b : decide (14 < (ls.length : Int)) = false := decide_eq_false (by omega)
      have H14 : Aside0 (ls.length ≤ 14) := ⟨by omega⟩
      clear h14
      have HEE : Aside0 (shakeE L st ls bs.length = if bs.length = ls.length ∧ ls.all (limB L) = true then 0 else 2) := ⟨by unfold shakeE; have := HL.out; have := HS.out; have := H14.out; rw [if_neg (by omega), if_neg (by omega)]⟩
      by_cases hq : bs.length = ls.length
      · have n1 : ((bs.length : Int) == (ls.length : Int)) = true := beq_iff_eq.2 (by omega)
        have n2 : ((bs.length : Int) != (ls.length : Int)) = false := bne_eq_false_iff_eq.2 (by omega)
        have n3 : (bs.length == ls.length) = true := beq_iff_eq.2 hq
        have HQ := Aside0.mk hq
        clear hq
        obtain ⟨ab, hab⟩ : ∃ ab, ls.all (limB L) = ab := ⟨_, rfl⟩
        have HAB := Aside0.mk hab
        clear hab
        go_wp2_with fail
        refine (alli_calls L A c ls _ w.heap.size H14.out (Kd.C_below HR.out KB.out) X.out).mono ?_
        rintro e w2 ⟨rfl, hb2⟩
        clear qX0 lX
        replace KB := Aside0.mk (KB.out.trans (hb2.mono KB.out.size))
        replace X := Aside0.mk (blk_below X.out hb2)
        rw [HAB.out]
        clear hb2
        have qX0 : w2.cell? ⟨w.heap.size, 0, none⟩ = some (.int .i64 L) := (blk_cell X.out 0).trans rfl
        have lX := blk_lt X.out
        cases ab with
        | false =>
          have HE : Aside0 (shakeE L st ls bs.length = 2) := ⟨by rw [HEE.out, if_neg (by simp [HAB.out])]⟩
          go_wp2_with fail
          refine bodyPost_ret (v := .tuple #[.slice none 0 0, .int .i64 2]) (by simp [results, Try.f36, go_sem]) rfl ⟨_, by rw [HE.out], by rw [shakeR_n (by rw [HE.out]; decide)]; exact Kd.R_nil _ _ _ _ _, KB.out⟩
        | true =>
          have HE : Aside0 (shakeE L st ls bs.length = 0) := ⟨by rw [HEE.out, if_pos ⟨HQ.out, HAB.out⟩]⟩
          go_wp2_with fail
          have NBX_X := Aside0.mk lX
          clear qX0 lX
          have BX := Aside0.mk (blk_new w2 (.cells #[.int .i64 L, .int .i64 st, .slice none 0 0] 34))
          have hb3 : Below w2.heap.size w2 (w2.alloc (.cells #[.int .i64 L, .int .i64 st, .slice none 0 0] 34)) := (Below.refl _ _).alloc (Nat.le_refl _) _
          replace KB := Aside0.mk (KB.out.trans (hb3.mono KB.out.size))
          replace X := Aside0.mk (blk_below X.out hb3)
          clear hb3
          obtain ⟨gBX, hgBX⟩ : ∃ g, w2.heap.size = g := ⟨_, rfl⟩
          rw [hgBX] at BX NBX_X ⊢
          clear hgBX
          generalize w2.alloc (.cells #[.int .i64 L, .int .i64 st, .slice none 0 0] 34) = w3 at BX KB X ⊢
          have qX0 : w3.cell? ⟨w.heap.size, 0, none⟩ = some (.int .i64 L) := (blk_cell X.out 0).trans rfl
          have lX := blk_lt X.out
          have qBX0 : w3.cell? ⟨gBX, 0, none⟩ = some (.int .i64 L) := (blk_cell BX.out 0).trans rfl
          have qBX1 : w3.cell? ⟨gBX, 1, none⟩ = some (.int .i64 st) := (blk_cell BX.out 1).trans rfl
          have qBX2 : w3.cell? ⟨gBX, 2, none⟩ = some (.slice none 0 0) := (blk_cell BX.out 2).trans rfl
          have lBX := blk_lt BX.out
          go_wp2_with fail
          clear qX0 qBX0 qBX1 qBX2 lX lBX
          go_loopw [11, 12, 43] (fun a o j wr => ∃ (jn : Nat) (lv : Int) (v : Value), jn ≤ ls.length ∧ j = .int .i64 jn ∧ a = .int .i64 lv ∧ v = o ∧ Aside0 (lv = levZ L st ((ls.zip bs).take jn)) ∧ Aside0 (Kd.R k67 67 wr w.heap.size (fun _ => True) v ((shakeZ L st ((ls.zip bs).take jn)).map up)) ∧ Aside0 (Below w.heap.size w wr) ∧ Aside0 (wr.heap[gBX]? = some (.cells #[.int .i64 L, .int .i64 st, .slice none 0 0] 34 (0, 0)))) (fun _ _ j _ => ls.length - (intOf j).toNat)
          case atStart => exact ⟨0, st, _, by omega, rfl, rfl, rfl, ⟨rfl⟩, ⟨Kd.R_nil _ _ _ _ _⟩, KB, BX⟩
          case round =>
            clear KB BX X
            obtain ⟨jn, lv, v, hj, rfl, rfl, rfl, HLV, HV, hbw, BX⟩ := hrel
            by_cases hj3 : jn < ls.length
            · have hj6 : decide ((jn : Int) < (ls.length : Int)) = true := decide_eq_true (by omega)
              have hj7 : (jn : Int) < (ls.length : Int) := by omega
              have hj8 : (jn : Int) < (bs.length : Int) := by have := HQ.out; omega
              have hjb : jn < bs.length := by have := HQ.out; omega
              have hjx : (jn : Int) < 1000000 := by have := H14.out; omega
              obtain ⟨ad1, rfl, g1⟩ := cellU (Kd.C_below HR.out hbw.out) jn hj3
              obtain ⟨ad2, rfl, g2⟩ := cellB (Kd.C_below HR1.out hbw.out) jn hjb
              have hlv := levZ_range (L := L) ((ls.zip bs).take jn) st HS.out.1 HS.out.2
              have HT := Aside0.mk (zip_take ls bs jn hj3 hjb)
              obtain ⟨n, hn⟩ : ∃ n, ls[jn] = n := ⟨_, rfl⟩
              obtain ⟨b, hb⟩ : ∃ b, bs[jn] = b := ⟨_, rfl⟩
              rw [hn, hb] at HT
              rw [hn] at g1
              rw [hb] at g2
              have htl := levZ_snoc L (n, b) ((ls.zip bs).take jn) st
              have htz := congrArg (List.map up) (shakeZ_snoc L (n, b) ((ls.zip bs).take jn) st)
              rw [← HT.out] at htl htz
              rw [List.map_append] at htz
              obtain ⟨zl, hzl⟩ : ∃ zl, (shakeZ L st ((ls.zip bs).take jn)).map up = zl := ⟨_, rfl⟩
              have HZL : Aside0 (zl.length ≤ 1000) := ⟨by rw [← hzl, List.length_map, shakeZ_len]; have := List.length_take_le jn (ls.zip bs); have := H14.out; omega⟩
              rw [← HLV.out] at hlv htl htz
              rw [hzl] at HV htz
              have HTL := Aside0.mk htl
              have HTZ := Aside0.mk htz
              have l1 := World.block_lt_of_cell? _ _ g1
              have l2 := World.block_lt_of_cell? _ _ g2
              have q0 : wr.cell? ⟨gBX, 0, none⟩ = some (.int .i64 L) := (blk_cell BX.out 0).trans rfl
              have q1 : wr.cell? ⟨gBX, 1, none⟩ = some (.int .i64 st) := (blk_cell BX.out 1).trans rfl
              have q2 : wr.cell? ⟨gBX, 2, none⟩ = some (.slice none 0 0) := (blk_cell BX.out 2).trans rfl
              have lq := blk_lt BX.out
              clear hn hb htl htz hzl HT HLV
              cases b with
              | false =>
                by_cases hln : lv < n
                · have hlt : decide (lv < n) = true := decide_eq_true hln
                  have HSR : Aside0 (shR lv (n, false) = 1) := ⟨by unfold shR; simp [hln]⟩
                  clear hln
                  go_wp2_with ((with_reducible refine gate_builtin (b := .append) (xs := #[.tmp 57, .tmp 61]) rfl ?_); at_builtin; refine Kd.R_append k67 (w0 := w) (W := wr) w.heap.size rfl (.tmp 57) (.tmp 61) 32 67 (.agg #[(.int .i64 0), (.int .u8 0)]) 16 rfl Try.underlying32 info67 rfl (by decide) (by omega) v zl ⟨lv, 1⟩ [.int .i64 lv, .int .u8 1] (fun _ => True) (fun _ => False) rfl (by simp [Act.eval]) (k67_mkM _ _ _ ⟨lv, 1⟩) (fun _ h => h.elim) (fun _ _ => trivial) HV.out hbw.out hbw.out.size (by have := HZL.out; omega) ?_; intro v7 w8 hR hb hg hat; have HV8 := Aside0.mk hR; have HB8 := Aside0.mk hb; have XB8 := Aside0.mk (blk_grown BX.out hg (Kd.R_ne HV.out BX.out (by decide))); clear hR hb hg hat)
                  have QX := Aside0.mk (And.intro ((blk_cell XB8.out 0).trans rfl : w8.cell? ⟨gBX, 0, none⟩ = some (.int .i64 L)) (And.intro ((blk_cell XB8.out 1).trans rfl : w8.cell? ⟨gBX, 1, none⟩ = some (.int .i64 st)) ((blk_cell XB8.out 2).trans rfl : w8.cell? ⟨gBX, 2, none⟩ = some (.slice none 0 0))))
                  have LX := Aside0.mk (blk_lt XB8.out)
                  clear q0 q1 q2 lq l1 l2 g1 g2
                  refine start_ (n := 9) (S := (Below w8.heap.size w8)) (ds := []) #[false, false, false, false, false, false, false, false, false] (by kernel_rfl) rfl rfl ((Below.refl _ _).drew) (fun hHeld => ?_)
                  refine with_tabW f36.tab19 f36.bits19 (fun HT_ HW_ => ?_)
                  refine take_ (i := 1) (N := some 64) (v := ?_) (a' := ?_) #[false, true, false, false, false, false, false, false, false] rfl rfl (take_ofW HT_.out HW_.out (by kernel_rfl)) (fun _ _ _ h => h) (Or.inl ⟨by rfl, ?_⟩) hHeld ?_ ?_
                  rotate_left
                  · rintro w' hS
                    have s0 := (hS.cell (p := ⟨gBX, 0, none⟩) LX.out).trans QX.out.1
                    have s1 := (hS.cell (p := ⟨gBX, 1, none⟩) LX.out).trans QX.out.2.1
                    have s2 := (hS.cell (p := ⟨gBX, 2, none⟩) LX.out).trans QX.out.2.2
                    clear hS
                    go_simp
                    with_reducible rfl
                  rotate_left
                  · simp only [Act.put, List.setIfInBounds_toArray, List.set_cons_zero, List.set_cons_succ, i64_w, i32_w]
                    rfl
                  refine take_ (i := 5) (N := some 68) (v := ?_) (a' := ?_) #[false, true, false, false, false, true, false, false, false] rfl rfl (take_ofW HT_.out HW_.out (by kernel_rfl)) (fun _ _ _ h => h) (Or.inl ⟨by rfl, ?_⟩) hHeld ?_ ?_
                  rotate_left
                  · rintro w' hS
                    have s0 := (hS.cell (p := ⟨gBX, 0, none⟩) LX.out).trans QX.out.1
                    have s1 := (hS.cell (p := ⟨gBX, 1, none⟩) LX.out).trans QX.out.2.1
                    have s2 := (hS.cell (p := ⟨gBX, 2, none⟩) LX.out).trans QX.out.2.2
                    clear hS
                    go_simp
                    with_reducible rfl
                  rotate_left
                  · simp only [Act.put, List.setIfInBounds_toArray, List.set_cons_zero, List.set_cons_succ, i64_w, i32_w]
                    rfl
                  refine take_ (i := 6) (N := some 69) (v := ?_) (a' := ?_) #[false, true, false, false, false, true, true, false, false] rfl rfl (take_ofW HT_.out HW_.out (by kernel_rfl)) (fun _ _ _ h => h) (Or.inl ⟨by rfl, ?_⟩) hHeld ?_ ?_
                  rotate_left
                  · rintro w' hS
                    have s0 := (hS.cell (p := ⟨gBX, 0, none⟩) LX.out).trans QX.out.1
                    have s1 := (hS.cell (p := ⟨gBX, 1, none⟩) LX.out).trans QX.out.2.1
                    have s2 := (hS.cell (p := ⟨gBX, 2, none⟩) LX.out).trans QX.out.2.2
                    clear hS
                    go_simp
                    with_reducible rfl
                  rotate_left
                  · simp only [Act.put, List.setIfInBounds_toArray, List.set_cons_zero, List.set_cons_succ, i64_w, i32_w]
                    rfl
                  refine one_ (i := 0) (N := some 63) #[true, true, false, false, false, true, true, false, false] rfl rfl (one_of HT_.out (by kernel_rfl)) (by decide) (fun K hK => ?_)
                  refine goes_ Try.func61 (by kernel_rfl) rfl #[] (by rfl) rfl rfl (by (try simp only [List.map_toArray, List.map_cons, List.map_nil]); first | done | rfl) ?_
                  refine (moves_calls _).mono ?_
                  rintro e w4 ⟨g, rfl, hg, hmv, hb4⟩
                  have HG := Aside0.mk hmv
                  refine ⟨_, rfl, hK.out _ _ (hHeld.trans (hb4.mono hHeld.size)) ?_⟩
                  clear hHeld hb4 hmv hg
                  intro hHeld
                  clear hK K
                  refine norm_ (a' := ?_) ?_ ?_
                  rotate_left
                  · show Act.put _ (some 63) _ = _
                    simp only [Act.put, List.setIfInBounds_toArray, List.set_cons_zero, List.set_cons_succ, i64_w, i32_w]
                    rfl
                  refine take_ (i := 2) (N := some 65) (v := ?_) (a' := ?_) #[true, true, true, false, false, true, true, false, false] rfl rfl (take_ofW HT_.out HW_.out (by kernel_rfl)) (fun _ _ _ h => h) (Or.inl ⟨by rfl, ?_⟩) hHeld ?_ ?_
                  rotate_left
                  · rintro w' hS
                    have s0 := (hS.cell (p := ⟨gBX, 0, none⟩) LX.out).trans QX.out.1
                    have s1 := (hS.cell (p := ⟨gBX, 1, none⟩) LX.out).trans QX.out.2.1
                    have s2 := (hS.cell (p := ⟨gBX, 2, none⟩) LX.out).trans QX.out.2.2
                    clear hS
                    go_simp
                    with_reducible rfl
                  rotate_left
                  · simp only [Act.put, List.setIfInBounds_toArray, List.set_cons_zero, List.set_cons_succ, i64_w, i32_w]
                    rfl
                  refine take_ (i := 3) (N := some 66) (v := ?_) (a' := ?_) #[true, true, true, true, false, true, true, false, false] rfl rfl (take_ofW HT_.out HW_.out (by kernel_rfl)) (fun _ _ _ h => h) (Or.inl ⟨by rfl, ?_⟩) hHeld ?_ ?_
                  rotate_left
                  · rintro w' hS
                    have s0 := (hS.cell (p := ⟨gBX, 0, none⟩) LX.out).trans QX.out.1
                    have s1 := (hS.cell (p := ⟨gBX, 1, none⟩) LX.out).trans QX.out.2.1
                    have s2 := (hS.cell (p := ⟨gBX, 2, none⟩) LX.out).trans QX.out.2.2
                    clear hS
                    go_simp
                    with_reducible rfl
                  rotate_left
                  · simp only [Act.put, List.setIfInBounds_toArray, List.set_cons_zero, List.set_cons_succ, i64_w, i32_w]
                    rfl
                  refine one_ (i := 4) (N := some 67) #[true, true, true, true, true, true, true, false, false] rfl rfl (one_of HT_.out (by kernel_rfl)) (by decide) (fun K hK => ?_)
                  have hg4 : w4.cell? ⟨g, 1, none⟩ = some (.func (.func 78) #[] #[]) := (blk_cell HG.out 1).trans rfl
                  refine value_ (v := .func (.func 78) #[] #[]) (w1 := w4) (by rfl) rfl (by go_simp) ?_
                  refine hK.out _ _ hHeld ?_
                  clear hHeld hg4
                  intro hHeld
                  clear hK K
                  refine norm_ (a' := ?_) ?_ ?_
                  rotate_left
                  · show Act.put _ (some 67) _ = _
                    simp only [Act.put, List.setIfInBounds_toArray, List.set_cons_zero, List.set_cons_succ, i64_w, i32_w]
                    rfl
                  refine one_ (i := 7) (N := some 70) #[true, true, true, true, true, true, true, true, false] rfl rfl (one_of HT_.out (by kernel_rfl)) (by decide) (fun K hK => ?_)
                  refine callv_ (t := 67) (fn := _) (hf77 1 (by decide)) (hn77 1 (by decide)) (hb77 1 (by decide)) #[.agg #[.int .i64 L, .int .i64 st, .slice none 0 0], .int .i64 lv] (by rfl) rfl rfl rfl (by simp [Act.eval]) ?_
                  refine (to_calls 1 (by decide) L st none 0 [] lv _ (Kd.C_nil _ _) (Nat.le_refl _) HL.out.2 HL.out.1 hlv.1 hlv.2).mono ?_
                  rintro e w6 ⟨rfl, hb6⟩
                  refine ⟨_, rfl, hK.out _ _ (hHeld.trans (hb6.mono hHeld.size)) ?_⟩
                  clear hHeld hb6
                  intro hHeld
                  clear hK K
                  refine norm_ (a' := ?_) ?_ ?_
                  rotate_left
                  · show Act.put _ (some 70) _ = _
                    simp only [Act.put, List.setIfInBounds_toArray, List.set_cons_zero, List.set_cons_succ, i64_w, i32_w]
                    rfl
                  refine take_ (i := 8) (N := some 11) (v := ?_) (a' := ?_) #[true, true, true, true, true, true, true, true, true] rfl rfl (take_ofW HT_.out HW_.out (by kernel_rfl)) (fun _ _ _ h => h) (Or.inl ⟨by rfl, ?_⟩) hHeld ?_ ?_
                  rotate_left
                  · rintro w' hS
                    have s0 := (hS.cell (p := ⟨gBX, 0, none⟩) LX.out).trans QX.out.1
                    have s1 := (hS.cell (p := ⟨gBX, 1, none⟩) LX.out).trans QX.out.2.1
                    have s2 := (hS.cell (p := ⟨gBX, 2, none⟩) LX.out).trans QX.out.2.2
                    clear hS
                    go_simp
                    with_reducible rfl
                  rotate_left
                  · simp only [Act.put, List.setIfInBounds_toArray, List.set_cons_zero, List.set_cons_succ, i64_w, i32_w]
                    rfl
                  refine done_ (done_of HT_.out (by kernel_rfl)) ?_
                  go_wp2_with fail
                  go_roundw
                  case rel => exact ⟨jn + 1, _, v7, by omega, by go_num, rfl, rfl, ⟨by rw [HTL.out, HSR.out]; first | done | rfl⟩, ⟨by rw [HTZ.out, HSR.out]; exact Kd.R_below HV8.out hHeld⟩, ⟨HB8.out.trans (hHeld.mono HB8.out.size)⟩, ⟨blk_below XB8.out hHeld⟩⟩
                  case measure => simp [intOf]; omega
                · have hlt : decide (lv < n) = false := decide_eq_false (by omega)
                  have HSR : Aside0 (shR lv (n, false) = 0) := ⟨by unfold shR; simp [hln]⟩
                  clear hln
                  go_wp2_with ((with_reducible refine gate_builtin (b := .append) (xs := #[.tmp 57, .tmp 61]) rfl ?_); at_builtin; refine Kd.R_append k67 (w0 := w) (W := wr) w.heap.size rfl (.tmp 57) (.tmp 61) 32 67 (.agg #[(.int .i64 0), (.int .u8 0)]) 16 rfl Try.underlying32 info67 rfl (by decide) (by omega) v zl ⟨lv, 0⟩ [.int .i64 lv, .int .u8 0] (fun _ => True) (fun _ => False) rfl (by simp [Act.eval]) (k67_mkM _ _ _ ⟨lv, 0⟩) (fun _ h => h.elim) (fun _ _ => trivial) HV.out hbw.out hbw.out.size (by have := HZL.out; omega) ?_; intro v7 w8 hR hb hg hat; have HV8 := Aside0.mk hR; have HB8 := Aside0.mk hb; have XB8 := Aside0.mk (blk_grown BX.out hg (Kd.R_ne HV.out BX.out (by decide))); clear hR hb hg hat)
                  have QX := Aside0.mk (And.intro ((blk_cell XB8.out 0).trans rfl : w8.cell? ⟨gBX, 0, none⟩ = some (.int .i64 L)) (And.intro ((blk_cell XB8.out 1).trans rfl : w8.cell? ⟨gBX, 1, none⟩ = some (.int .i64 st)) ((blk_cell XB8.out 2).trans rfl : w8.cell? ⟨gBX, 2, none⟩ = some (.slice none 0 0))))
                  have LX := Aside0.mk (blk_lt XB8.out)
                  clear q0 q1 q2 lq l1 l2 g1 g2
                  refine start_ (n := 9) (S := (Below w8.heap.size w8)) (ds := []) #[false, false, false, false, false, false, false, false, false] (by kernel_rfl) rfl rfl ((Below.refl _ _).drew) (fun hHeld => ?_)
                  refine with_tabW f36.tab19 f36.bits19 (fun HT_ HW_ => ?_)
                  refine take_ (i := 1) (N := some 64) (v := ?_) (a' := ?_) #[false, true, false, false, false, false, false, false, false] rfl rfl (take_ofW HT_.out HW_.out (by kernel_rfl)) (fun _ _ _ h => h) (Or.inl ⟨by rfl, ?_⟩) hHeld ?_ ?_
                  rotate_left
                  · rintro w' hS
                    have s0 := (hS.cell (p := ⟨gBX, 0, none⟩) LX.out).trans QX.out.1
                    have s1 := (hS.cell (p := ⟨gBX, 1, none⟩) LX.out).trans QX.out.2.1
                    have s2 := (hS.cell (p := ⟨gBX, 2, none⟩) LX.out).trans QX.out.2.2
                    clear hS
                    go_simp
                    with_reducible rfl
                  rotate_left
                  · simp only [Act.put, List.setIfInBounds_toArray, List.set_cons_zero, List.set_cons_succ, i64_w, i32_w]
                    rfl
                  refine take_ (i := 5) (N := some 68) (v := ?_) (a' := ?_) #[false, true, false, false, false, true, false, false, false] rfl rfl (take_ofW HT_.out HW_.out (by kernel_rfl)) (fun _ _ _ h => h) (Or.inl ⟨by rfl, ?_⟩) hHeld ?_ ?_
                  rotate_left
                  · rintro w' hS
                    have s0 := (hS.cell (p := ⟨gBX, 0, none⟩) LX.out).trans QX.out.1
                    have s1 := (hS.cell (p := ⟨gBX, 1, none⟩) LX.out).trans QX.out.2.1
                    have s2 := (hS.cell (p := ⟨gBX, 2, none⟩) LX.out).trans QX.out.2.2
                    clear hS
                    go_simp
                    with_reducible rfl
                  rotate_left
                  · simp only [Act.put, List.setIfInBounds_toArray, List.set_cons_zero, List.set_cons_succ, i64_w, i32_w]
                    rfl
                  refine take_ (i := 6) (N := some 69) (v := ?_) (a' := ?_) #[false, true, false, false, false, true, true, false, false] rfl rfl (take_ofW HT_.out HW_.out (by kernel_rfl)) (fun _ _ _ h => h) (Or.inl ⟨by rfl, ?_⟩) hHeld ?_ ?_
                  rotate_left
                  · rintro w' hS
                    have s0 := (hS.cell (p := ⟨gBX, 0, none⟩) LX.out).trans QX.out.1
                    have s1 := (hS.cell (p := ⟨gBX, 1, none⟩) LX.out).trans QX.out.2.1
                    have s2 := (hS.cell (p := ⟨gBX, 2, none⟩) LX.out).trans QX.out.2.2
                    clear hS
                    go_simp
                    with_reducible rfl
                  rotate_left
                  · simp only [Act.put, List.setIfInBounds_toArray, List.set_cons_zero, List.set_cons_succ, i64_w, i32_w]
                    rfl
                  refine one_ (i := 0) (N := some 63) #[true, true, false, false, false, true, true, false, false] rfl rfl (one_of HT_.out (by kernel_rfl)) (by decide) (fun K hK => ?_)
                  refine goes_ Try.func61 (by kernel_rfl) rfl #[] (by rfl) rfl rfl (by (try simp only [List.map_toArray, List.map_cons, List.map_nil]); first | done | rfl) ?_
                  refine (moves_calls _).mono ?_
                  rintro e w4 ⟨g, rfl, hg, hmv, hb4⟩
                  have HG := Aside0.mk hmv
                  refine ⟨_, rfl, hK.out _ _ (hHeld.trans (hb4.mono hHeld.size)) ?_⟩
                  clear hHeld hb4 hmv hg
                  intro hHeld
                  clear hK K
                  refine norm_ (a' := ?_) ?_ ?_
                  rotate_left
                  · show Act.put _ (some 63) _ = _
                    simp only [Act.put, List.setIfInBounds_toArray, List.set_cons_zero, List.set_cons_succ, i64_w, i32_w]
                    rfl
                  refine take_ (i := 2) (N := some 65) (v := ?_) (a' := ?_) #[true, true, true, false, false, true, true, false, false] rfl rfl (take_ofW HT_.out HW_.out (by kernel_rfl)) (fun _ _ _ h => h) (Or.inl ⟨by rfl, ?_⟩) hHeld ?_ ?_
                  rotate_left
                  · rintro w' hS
                    have s0 := (hS.cell (p := ⟨gBX, 0, none⟩) LX.out).trans QX.out.1
                    have s1 := (hS.cell (p := ⟨gBX, 1, none⟩) LX.out).trans QX.out.2.1
                    have s2 := (hS.cell (p := ⟨gBX, 2, none⟩) LX.out).trans QX.out.2.2
                    clear hS
                    go_simp
                    with_reducible rfl
                  rotate_left
                  · simp only [Act.put, List.setIfInBounds_toArray, List.set_cons_zero, List.set_cons_succ, i64_w, i32_w]
                    rfl
                  refine take_ (i := 3) (N := some 66) (v := ?_) (a' := ?_) #[true, true, true, true, false, true, true, false, false] rfl rfl (take_ofW HT_.out HW_.out (by kernel_rfl)) (fun _ _ _ h => h) (Or.inl ⟨by rfl, ?_⟩) hHeld ?_ ?_
                  rotate_left
                  · rintro w' hS
                    have s0 := (hS.cell (p := ⟨gBX, 0, none⟩) LX.out).trans QX.out.1
                    have s1 := (hS.cell (p := ⟨gBX, 1, none⟩) LX.out).trans QX.out.2.1
                    have s2 := (hS.cell (p := ⟨gBX, 2, none⟩) LX.out).trans QX.out.2.2
                    clear hS
                    go_simp
                    with_reducible rfl
                  rotate_left
                  · simp only [Act.put, List.setIfInBounds_toArray, List.set_cons_zero, List.set_cons_succ, i64_w, i32_w]
                    rfl
                  refine one_ (i := 4) (N := some 67) #[true, true, true, true, true, true, true, false, false] rfl rfl (one_of HT_.out (by kernel_rfl)) (by decide) (fun K hK => ?_)
                  have hg4 : w4.cell? ⟨g, 0, none⟩ = some (.func (.func 77) #[] #[]) := (blk_cell HG.out 0).trans rfl
                  refine value_ (v := .func (.func 77) #[] #[]) (w1 := w4) (by rfl) rfl (by go_simp) ?_
                  refine hK.out _ _ hHeld ?_
                  clear hHeld hg4
                  intro hHeld
                  clear hK K
                  refine norm_ (a' := ?_) ?_ ?_
                  rotate_left
                  · show Act.put _ (some 67) _ = _
                    simp only [Act.put, List.setIfInBounds_toArray, List.set_cons_zero, List.set_cons_succ, i64_w, i32_w]
                    rfl
                  refine one_ (i := 7) (N := some 70) #[true, true, true, true, true, true, true, true, false] rfl rfl (one_of HT_.out (by kernel_rfl)) (by decide) (fun K hK => ?_)
                  refine callv_ (t := 67) (fn := _) (hf77 0 (by decide)) (hn77 0 (by decide)) (hb77 0 (by decide)) #[.agg #[.int .i64 L, .int .i64 st, .slice none 0 0], .int .i64 lv] (by rfl) rfl rfl rfl (by simp [Act.eval]) ?_
                  refine (to_calls 0 (by decide) L st none 0 [] lv _ (Kd.C_nil _ _) (Nat.le_refl _) HL.out.2 HL.out.1 hlv.1 hlv.2).mono ?_
                  rintro e w6 ⟨rfl, hb6⟩
                  refine ⟨_, rfl, hK.out _ _ (hHeld.trans (hb6.mono hHeld.size)) ?_⟩
                  clear hHeld hb6
                  intro hHeld
                  clear hK K
                  refine norm_ (a' := ?_) ?_ ?_
                  rotate_left
                  · show Act.put _ (some 70) _ = _
                    simp only [Act.put, List.setIfInBounds_toArray, List.set_cons_zero, List.set_cons_succ, i64_w, i32_w]
                    rfl
                  refine take_ (i := 8) (N := some 11) (v := ?_) (a' := ?_) #[true, true, true, true, true, true, true, true, true] rfl rfl (take_ofW HT_.out HW_.out (by kernel_rfl)) (fun _ _ _ h => h) (Or.inl ⟨by rfl, ?_⟩) hHeld ?_ ?_
                  rotate_left
                  · rintro w' hS
                    have s0 := (hS.cell (p := ⟨gBX, 0, none⟩) LX.out).trans QX.out.1
                    have s1 := (hS.cell (p := ⟨gBX, 1, none⟩) LX.out).trans QX.out.2.1
                    have s2 := (hS.cell (p := ⟨gBX, 2, none⟩) LX.out).trans QX.out.2.2
                    clear hS
                    go_simp
                    with_reducible rfl
                  rotate_left
                  · simp only [Act.put, List.setIfInBounds_toArray, List.set_cons_zero, List.set_cons_succ, i64_w, i32_w]
                    rfl
                  refine done_ (done_of HT_.out (by kernel_rfl)) ?_
                  go_wp2_with fail
                  go_roundw
                  case rel => exact ⟨jn + 1, _, v7, by omega, by go_num, rfl, rfl, ⟨by rw [HTL.out, HSR.out]; first | done | rfl⟩, ⟨by rw [HTZ.out, HSR.out]; exact Kd.R_below HV8.out hHeld⟩, ⟨HB8.out.trans (hHeld.mono HB8.out.size)⟩, ⟨blk_below XB8.out hHeld⟩⟩
                  case measure => simp [intOf]; omega
              | true =>
                by_cases hln : lv < n
                · have hlt : decide (lv < n) = true := decide_eq_true hln
                  have HSR : Aside0 (shR lv (n, true) = 2) := ⟨by unfold shR; simp⟩
                  clear hln
                  go_wp2_with ((with_reducible refine gate_builtin (b := .append) (xs := #[.tmp 57, .tmp 61]) rfl ?_); at_builtin; refine Kd.R_append k67 (w0 := w) (W := wr) w.heap.size rfl (.tmp 57) (.tmp 61) 32 67 (.agg #[(.int .i64 0), (.int .u8 0)]) 16 rfl Try.underlying32 info67 rfl (by decide) (by omega) v zl ⟨lv, 2⟩ [.int .i64 lv, .int .u8 2] (fun _ => True) (fun _ => False) rfl (by simp [Act.eval]) (k67_mkM _ _ _ ⟨lv, 2⟩) (fun _ h => h.elim) (fun _ _ => trivial) HV.out hbw.out hbw.out.size (by have := HZL.out; omega) ?_; intro v7 w8 hR hb hg hat; have HV8 := Aside0.mk hR; have HB8 := Aside0.mk hb; have XB8 := Aside0.mk (blk_grown BX.out hg (Kd.R_ne HV.out BX.out (by decide))); clear hR hb hg hat)
                  have QX := Aside0.mk (And.intro ((blk_cell XB8.out 0).trans rfl : w8.cell? ⟨gBX, 0, none⟩ = some (.int .i64 L)) (And.intro ((blk_cell XB8.out 1).trans rfl : w8.cell? ⟨gBX, 1, none⟩ = some (.int .i64 st)) ((blk_cell XB8.out 2).trans rfl : w8.cell? ⟨gBX, 2, none⟩ = some (.slice none 0 0))))
                  have LX := Aside0.mk (blk_lt XB8.out)
                  clear q0 q1 q2 lq l1 l2 g1 g2
                  refine start_ (n := 9) (S := (Below w8.heap.size w8)) (ds := []) #[false, false, false, false, false, false, false, false, false] (by kernel_rfl) rfl rfl ((Below.refl _ _).drew) (fun hHeld => ?_)
                  refine with_tabW f36.tab19 f36.bits19 (fun HT_ HW_ => ?_)
                  refine take_ (i := 1) (N := some 64) (v := ?_) (a' := ?_) #[false, true, false, false, false, false, false, false, false] rfl rfl (take_ofW HT_.out HW_.out (by kernel_rfl)) (fun _ _ _ h => h) (Or.inl ⟨by rfl, ?_⟩) hHeld ?_ ?_
                  rotate_left
                  · rintro w' hS
                    have s0 := (hS.cell (p := ⟨gBX, 0, none⟩) LX.out).trans QX.out.1
                    have s1 := (hS.cell (p := ⟨gBX, 1, none⟩) LX.out).trans QX.out.2.1
                    have s2 := (hS.cell (p := ⟨gBX, 2, none⟩) LX.out).trans QX.out.2.2
                    clear hS
                    go_simp
                    with_reducible rfl
                  rotate_left
                  · simp only [Act.put, List.setIfInBounds_toArray, List.set_cons_zero, List.set_cons_succ, i64_w, i32_w]
                    rfl
                  refine take_ (i := 5) (N := some 68) (v := ?_) (a' := ?_) #[false, true, false, false, false, true, false, false, false] rfl rfl (take_ofW HT_.out HW_.out (by kernel_rfl)) (fun _ _ _ h => h) (Or.inl ⟨by rfl, ?_⟩) hHeld ?_ ?_
                  rotate_left
                  · rintro w' hS
                    have s0 := (hS.cell (p := ⟨gBX, 0, none⟩) LX.out).trans QX.out.1
                    have s1 := (hS.cell (p := ⟨gBX, 1, none⟩) LX.out).trans QX.out.2.1
                    have s2 := (hS.cell (p := ⟨gBX, 2, none⟩) LX.out).trans QX.out.2.2
                    clear hS
                    go_simp
                    with_reducible rfl
                  rotate_left
                  · simp only [Act.put, List.setIfInBounds_toArray, List.set_cons_zero, List.set_cons_succ, i64_w, i32_w]
                    rfl
                  refine take_ (i := 6) (N := some 69) (v := ?_) (a' := ?_) #[false, true, false, false, false, true, true, false, false] rfl rfl (take_ofW HT_.out HW_.out (by kernel_rfl)) (fun _ _ _ h => h) (Or.inl ⟨by rfl, ?_⟩) hHeld ?_ ?_
                  rotate_left
                  · rintro w' hS
                    have s0 := (hS.cell (p := ⟨gBX, 0, none⟩) LX.out).trans QX.out.1
                    have s1 := (hS.cell (p := ⟨gBX, 1, none⟩) LX.out).trans QX.out.2.1
                    have s2 := (hS.cell (p := ⟨gBX, 2, none⟩) LX.out).trans QX.out.2.2
                    clear hS
                    go_simp
                    with_reducible rfl
                  rotate_left
                  · simp only [Act.put, List.setIfInBounds_toArray, List.set_cons_zero, List.set_cons_succ, i64_w, i32_w]
                    rfl
                  refine one_ (i := 0) (N := some 63) #[true, true, false, false, false, true, true, false, false] rfl rfl (one_of HT_.out (by kernel_rfl)) (by decide) (fun K hK => ?_)
                  refine goes_ Try.func61 (by kernel_rfl) rfl #[] (by rfl) rfl rfl (by (try simp only [List.map_toArray, List.map_cons, List.map_nil]); first | done | rfl) ?_
                  refine (moves_calls _).mono ?_
                  rintro e w4 ⟨g, rfl, hg, hmv, hb4⟩
                  have HG := Aside0.mk hmv
                  refine ⟨_, rfl, hK.out _ _ (hHeld.trans (hb4.mono hHeld.size)) ?_⟩
                  clear hHeld hb4 hmv hg
                  intro hHeld
                  clear hK K
                  refine norm_ (a' := ?_) ?_ ?_
                  rotate_left
                  · show Act.put _ (some 63) _ = _
                    simp only [Act.put, List.setIfInBounds_toArray, List.set_cons_zero, List.set_cons_succ, i64_w, i32_w]
                    rfl
                  refine take_ (i := 2) (N := some 65) (v := ?_) (a' := ?_) #[true, true, true, false, false, true, true, false, false] rfl rfl (take_ofW HT_.out HW_.out (by kernel_rfl)) (fun _ _ _ h => h) (Or.inl ⟨by rfl, ?_⟩) hHeld ?_ ?_
                  rotate_left
                  · rintro w' hS
                    have s0 := (hS.cell (p := ⟨gBX, 0, none⟩) LX.out).trans QX.out.1
                    have s1 := (hS.cell (p := ⟨gBX, 1, none⟩) LX.out).trans QX.out.2.1
                    have s2 := (hS.cell (p := ⟨gBX, 2, none⟩) LX.out).trans QX.out.2.2
                    clear hS
                    go_simp
                    with_reducible rfl
                  rotate_left
                  · simp only [Act.put, List.setIfInBounds_toArray, List.set_cons_zero, List.set_cons_succ, i64_w, i32_w]
                    rfl
                  refine take_ (i := 3) (N := some 66) (v := ?_) (a' := ?_) #[true, true, true, true, false, true, true, false, false] rfl rfl (take_ofW HT_.out HW_.out (by kernel_rfl)) (fun _ _ _ h => h) (Or.inl ⟨by rfl, ?_⟩) hHeld ?_ ?_
                  rotate_left
                  · rintro w' hS
                    have s0 := (hS.cell (p := ⟨gBX, 0, none⟩) LX.out).trans QX.out.1
                    have s1 := (hS.cell (p := ⟨gBX, 1, none⟩) LX.out).trans QX.out.2.1
                    have s2 := (hS.cell (p := ⟨gBX, 2, none⟩) LX.out).trans QX.out.2.2
                    clear hS
                    go_simp
                    with_reducible rfl
                  rotate_left
                  · simp only [Act.put, List.setIfInBounds_toArray, List.set_cons_zero, List.set_cons_succ, i64_w, i32_w]
                    rfl
                  refine one_ (i := 4) (N := some 67) #[true, true, true, true, true, true, true, false, false] rfl rfl (one_of HT_.out (by kernel_rfl)) (by decide) (fun K hK => ?_)
                  have hg4 : w4.cell? ⟨g, 2, none⟩ = some (.func (.func 79) #[] #[]) := (blk_cell HG.out 2).trans rfl
                  refine value_ (v := .func (.func 79) #[] #[]) (w1 := w4) (by rfl) rfl (by go_simp) ?_
                  refine hK.out _ _ hHeld ?_
                  clear hHeld hg4
                  intro hHeld
                  clear hK K
                  refine norm_ (a' := ?_) ?_ ?_
                  rotate_left
                  · show Act.put _ (some 67) _ = _
                    simp only [Act.put, List.setIfInBounds_toArray, List.set_cons_zero, List.set_cons_succ, i64_w, i32_w]
                    rfl
                  refine one_ (i := 7) (N := some 70) #[true, true, true, true, true, true, true, true, false] rfl rfl (one_of HT_.out (by kernel_rfl)) (by decide) (fun K hK => ?_)
                  refine callv_ (t := 67) (fn := _) (hf77 2 (by decide)) (hn77 2 (by decide)) (hb77 2 (by decide)) #[.agg #[.int .i64 L, .int .i64 st, .slice none 0 0], .int .i64 lv] (by rfl) rfl rfl rfl (by simp [Act.eval]) ?_
                  refine (to_calls 2 (by decide) L st none 0 [] lv _ (Kd.C_nil _ _) (Nat.le_refl _) HL.out.2 HL.out.1 hlv.1 hlv.2).mono ?_
                  rintro e w6 ⟨rfl, hb6⟩
                  refine ⟨_, rfl, hK.out _ _ (hHeld.trans (hb6.mono hHeld.size)) ?_⟩
                  clear hHeld hb6
                  intro hHeld
                  clear hK K
                  refine norm_ (a' := ?_) ?_ ?_
                  rotate_left
                  · show Act.put _ (some 70) _ = _
                    simp only [Act.put, List.setIfInBounds_toArray, List.set_cons_zero, List.set_cons_succ, i64_w, i32_w]
                    rfl
                  refine take_ (i := 8) (N := some 11) (v := ?_) (a' := ?_) #[true, true, true, true, true, true, true, true, true] rfl rfl (take_ofW HT_.out HW_.out (by kernel_rfl)) (fun _ _ _ h => h) (Or.inl ⟨by rfl, ?_⟩) hHeld ?_ ?_
                  rotate_left
                  · rintro w' hS
                    have s0 := (hS.cell (p := ⟨gBX, 0, none⟩) LX.out).trans QX.out.1
                    have s1 := (hS.cell (p := ⟨gBX, 1, none⟩) LX.out).trans QX.out.2.1
                    have s2 := (hS.cell (p := ⟨gBX, 2, none⟩) LX.out).trans QX.out.2.2
                    clear hS
                    go_simp
                    with_reducible rfl
                  rotate_left
                  · simp only [Act.put, List.setIfInBounds_toArray, List.set_cons_zero, List.set_cons_succ, i64_w, i32_w]
                    rfl
                  refine done_ (done_of HT_.out (by kernel_rfl)) ?_
                  go_wp2_with fail
                  go_roundw
                  case rel => exact ⟨jn + 1, _, v7, by omega, by go_num, rfl, rfl, ⟨by rw [HTL.out, HSR.out]; first | done | rfl⟩, ⟨by rw [HTZ.out, HSR.out]; exact Kd.R_below HV8.out hHeld⟩, ⟨HB8.out.trans (hHeld.mono HB8.out.size)⟩, ⟨blk_below XB8.out hHeld⟩⟩
                  case measure => simp [intOf]; omega
                · have hlt : decide (lv < n) = false := decide_eq_false (by omega)
                  have HSR : Aside0 (shR lv (n, true) = 2) := ⟨by unfold shR; simp⟩
                  clear hln
                  go_wp2_with ((with_reducible refine gate_builtin (b := .append) (xs := #[.tmp 57, .tmp 61]) rfl ?_); at_builtin; refine Kd.R_append k67 (w0 := w) (W := wr) w.heap.size rfl (.tmp 57) (.tmp 61) 32 67 (.agg #[(.int .i64 0), (.int .u8 0)]) 16 rfl Try.underlying32 info67 rfl (by decide) (by omega) v zl ⟨lv, 2⟩ [.int .i64 lv, .int .u8 2] (fun _ => True) (fun _ => False) rfl (by simp [Act.eval]) (k67_mkM _ _ _ ⟨lv, 2⟩) (fun _ h => h.elim) (fun _ _ => trivial) HV.out hbw.out hbw.out.size (by have := HZL.out; omega) ?_; intro v7 w8 hR hb hg hat; have HV8 := Aside0.mk hR; have HB8 := Aside0.mk hb; have XB8 := Aside0.mk (blk_grown BX.out hg (Kd.R_ne HV.out BX.out (by decide))); clear hR hb hg hat)
                  have QX := Aside0.mk (And.intro ((blk_cell XB8.out 0).trans rfl : w8.cell? ⟨gBX, 0, none⟩ = some (.int .i64 L)) (And.intro ((blk_cell XB8.out 1).trans rfl : w8.cell? ⟨gBX, 1, none⟩ = some (.int .i64 st)) ((blk_cell XB8.out 2).trans rfl : w8.cell? ⟨gBX, 2, none⟩ = some (.slice none 0 0))))
                  have LX := Aside0.mk (blk_lt XB8.out)
                  clear q0 q1 q2 lq l1 l2 g1 g2
                  refine start_ (n := 9) (S := (Below w8.heap.size w8)) (ds := []) #[false, false, false, false, false, false, false, false, false] (by kernel_rfl) rfl rfl ((Below.refl _ _).drew) (fun hHeld => ?_)
                  refine with_tabW f36.tab19 f36.bits19 (fun HT_ HW_ => ?_)
                  refine take_ (i := 1) (N := some 64) (v := ?_) (a' := ?_) #[false, true, false, false, false, false, false, false, false] rfl rfl (take_ofW HT_.out HW_.out (by kernel_rfl)) (fun _ _ _ h => h) (Or.inl ⟨by rfl, ?_⟩) hHeld ?_ ?_
                  rotate_left
                  · rintro w' hS
                    have s0 := (hS.cell (p := ⟨gBX, 0, none⟩) LX.out).trans QX.out.1
                    have s1 := (hS.cell (p := ⟨gBX, 1, none⟩) LX.out).trans QX.out.2.1
                    have s2 := (hS.cell (p := ⟨gBX, 2, none⟩) LX.out).trans QX.out.2.2
                    clear hS
                    go_simp
                    with_reducible rfl
                  rotate_left
                  · simp only [Act.put, List.setIfInBounds_toArray, List.set_cons_zero, List.set_cons_succ, i64_w, i32_w]
                    rfl
                  refine take_ (i := 5) (N := some 68) (v := ?_) (a' := ?_) #[false, true, false, false, false, true, false, false, false] rfl rfl (take_ofW HT_.out HW_.out (by kernel_rfl)) (fun _ _ _ h => h) (Or.inl ⟨by rfl, ?_⟩) hHeld ?_ ?_
                  rotate_left
                  · rintro w' hS
                    have s0 := (hS.cell (p := ⟨gBX, 0, none⟩) LX.out).trans QX.out.1
                    have s1 := (hS.cell (p := ⟨gBX, 1, none⟩) LX.out).trans QX.out.2.1
                    have s2 := (hS.cell (p := ⟨gBX, 2, none⟩) LX.out).trans QX.out.2.2
                    clear hS
                    go_simp
                    with_reducible rfl
                  rotate_left
                  · simp only [Act.put, List.setIfInBounds_toArray, List.set_cons_zero, List.set_cons_succ, i64_w, i32_w]
                    rfl
                  refine take_ (i := 6) (N := some 69) (v := ?_) (a' := ?_) #[false, true, false, false, false, true, true, false, false] rfl rfl (take_ofW HT_.out HW_.out (by kernel_rfl)) (fun _ _ _ h => h) (Or.inl ⟨by rfl, ?_⟩) hHeld ?_ ?_
                  rotate_left
                  · rintro w' hS
                    have s0 := (hS.cell (p := ⟨gBX, 0, none⟩) LX.out).trans QX.out.1
                    have s1 := (hS.cell (p := ⟨gBX, 1, none⟩) LX.out).trans QX.out.2.1
                    have s2 := (hS.cell (p := ⟨gBX, 2, none⟩) LX.out).trans QX.out.2.2
                    clear hS
                    go_simp
                    with_reducible rfl
                  rotate_left
                  · simp only [Act.put, List.setIfInBounds_toArray, List.set_cons_zero, List.set_cons_succ, i64_w, i32_w]
                    rfl
                  refine one_ (i := 0) (N := some 63) #[true, true, false, false, false, true, true, false, false] rfl rfl (one_of HT_.out (by kernel_rfl)) (by decide) (fun K hK => ?_)
                  refine goes_ Try.func61 (by kernel_rfl) rfl #[] (by rfl) rfl rfl (by (try simp only [List.map_toArray, List.map_cons, List.map_nil]); first | done | rfl) ?_
                  refine (moves_calls _).mono ?_
                  rintro e w4 ⟨g, rfl, hg, hmv, hb4⟩
                  have HG := Aside0.mk hmv
                  refine ⟨_, rfl, hK.out _ _ (hHeld.trans (hb4.mono hHeld.size)) ?_⟩
                  clear hHeld hb4 hmv hg
                  intro hHeld
                  clear hK K
                  refine norm_ (a' := ?_) ?_ ?_
                  rotate_left
                  · show Act.put _ (some 63) _ = _
                    simp only [Act.put, List.setIfInBounds_toArray, List.set_cons_zero, List.set_cons_succ, i64_w, i32_w]
                    rfl
                  refine take_ (i := 2) (N := some 65) (v := ?_) (a' := ?_) #[true, true, true, false, false, true, true, false, false] rfl rfl (take_ofW HT_.out HW_.out (by kernel_rfl)) (fun _ _ _ h => h) (Or.inl ⟨by rfl, ?_⟩) hHeld ?_ ?_
                  rotate_left
                  · rintro w' hS
                    have s0 := (hS.cell (p := ⟨gBX, 0, none⟩) LX.out).trans QX.out.1
                    have s1 := (hS.cell (p := ⟨gBX, 1, none⟩) LX.out).trans QX.out.2.1
                    have s2 := (hS.cell (p := ⟨gBX, 2, none⟩) LX.out).trans QX.out.2.2
                    clear hS
                    go_simp
                    with_reducible rfl
                  rotate_left
                  · simp only [Act.put, List.setIfInBounds_toArray, List.set_cons_zero, List.set_cons_succ, i64_w, i32_w]
                    rfl
                  refine take_ (i := 3) (N := some 66) (v := ?_) (a' := ?_) #[true, true, true, true, false, true, true, false, false] rfl rfl (take_ofW HT_.out HW_.out (by kernel_rfl)) (fun _ _ _ h => h) (Or.inl ⟨by rfl, ?_⟩) hHeld ?_ ?_
                  rotate_left
                  · rintro w' hS
                    have s0 := (hS.cell (p := ⟨gBX, 0, none⟩) LX.out).trans QX.out.1
                    have s1 := (hS.cell (p := ⟨gBX, 1, none⟩) LX.out).trans QX.out.2.1
                    have s2 := (hS.cell (p := ⟨gBX, 2, none⟩) LX.out).trans QX.out.2.2
                    clear hS
                    go_simp
                    with_reducible rfl
                  rotate_left
                  · simp only [Act.put, List.setIfInBounds_toArray, List.set_cons_zero, List.set_cons_succ, i64_w, i32_w]
                    rfl
                  refine one_ (i := 4) (N := some 67) #[true, true, true, true, true, true, true, false, false] rfl rfl (one_of HT_.out (by kernel_rfl)) (by decide) (fun K hK => ?_)
                  have hg4 : w4.cell? ⟨g, 2, none⟩ = some (.func (.func 79) #[] #[]) := (blk_cell HG.out 2).trans rfl
                  refine value_ (v := .func (.func 79) #[] #[]) (w1 := w4) (by rfl) rfl (by go_simp) ?_
                  refine hK.out _ _ hHeld ?_
                  clear hHeld hg4
                  intro hHeld
                  clear hK K
                  refine norm_ (a' := ?_) ?_ ?_
                  rotate_left
                  · show Act.put _ (some 67) _ = _
                    simp only [Act.put, List.setIfInBounds_toArray, List.set_cons_zero, List.set_cons_succ, i64_w, i32_w]
                    rfl
                  refine one_ (i := 7) (N := some 70) #[true, true, true, true, true, true, true, true, false] rfl rfl (one_of HT_.out (by kernel_rfl)) (by decide) (fun K hK => ?_)
                  refine callv_ (t := 67) (fn := _) (hf77 2 (by decide)) (hn77 2 (by decide)) (hb77 2 (by decide)) #[.agg #[.int .i64 L, .int .i64 st, .slice none 0 0], .int .i64 lv] (by rfl) rfl rfl rfl (by simp [Act.eval]) ?_
                  refine (to_calls 2 (by decide) L st none 0 [] lv _ (Kd.C_nil _ _) (Nat.le_refl _) HL.out.2 HL.out.1 hlv.1 hlv.2).mono ?_
                  rintro e w6 ⟨rfl, hb6⟩
                  refine ⟨_, rfl, hK.out _ _ (hHeld.trans (hb6.mono hHeld.size)) ?_⟩
                  clear hHeld hb6
                  intro hHeld
                  clear hK K
                  refine norm_ (a' := ?_) ?_ ?_
                  rotate_left
                  · show Act.put _ (some 70) _ = _
                    simp only [Act.put, List.setIfInBounds_toArray, List.set_cons_zero, List.set_cons_succ, i64_w, i32_w]
                    rfl
                  refine take_ (i := 8) (N := some 11) (v := ?_) (a' := ?_) #[true, true, true, true, true, true, true, true, true] rfl rfl (take_ofW HT_.out HW_.out (by kernel_rfl)) (fun _ _ _ h => h) (Or.inl ⟨by rfl, ?_⟩) hHeld ?_ ?_
                  rotate_left
                  · rintro w' hS
                    have s0 := (hS.cell (p := ⟨gBX, 0, none⟩) LX.out).trans QX.out.1
                    have s1 := (hS.cell (p := ⟨gBX, 1, none⟩) LX.out).trans QX.out.2.1
                    have s2 := (hS.cell (p := ⟨gBX, 2, none⟩) LX.out).trans QX.out.2.2
                    clear hS
                    go_simp
                    with_reducible rfl
                  rotate_left
                  · simp only [Act.put, List.setIfInBounds_toArray, List.set_cons_zero, List.set_cons_succ, i64_w, i32_w]
                    rfl
                  refine done_ (done_of HT_.out (by kernel_rfl)) ?_
                  go_wp2_with fail
                  go_roundw
                  case rel => exact ⟨jn + 1, _, v7, by omega, by go_num, rfl, rfl, ⟨by rw [HTL.out, HSR.out]; first | done | rfl⟩, ⟨by rw [HTZ.out, HSR.out]; exact Kd.R_below HV8.out hHeld⟩, ⟨HB8.out.trans (hHeld.mono HB8.out.size)⟩, ⟨blk_below XB8.out hHeld⟩⟩
                  case measure => simp [intOf]; omega
            · have hj6 : decide ((jn : Int) < (ls.length : Int)) = false := decide_eq_false (by omega)
              have htk : (ls.zip bs).take jn = ls.zip bs := List.take_of_length_le (by simp; omega)
              rw [htk] at HV
              go_wp2_with fail
              refine bodyPost_ret (v := .tuple #[v, .int .i64 0]) (by simp [results, Try.f36, go_sem]) rfl ?_
              exact ⟨_, by rw [HE.out], by rw [shakeR_0 HE.out]; exact HV.out, hbw.out⟩
      · have n1 : ((bs.length : Int) == (ls.length : Int)) = false := beq_eq_false_iff_ne.2 (by omega)
        have n2 : ((bs.length : Int) != (ls.length : Int)) = true := bne_iff_ne.2 (by omega)
        have n3 : (bs.length == ls.length) = false := beq_eq_false_iff_ne.2 hq
        have HQ := Aside0.mk hq
        clear hq
        have HE : Aside0 (shakeE L st ls bs.length = 2) := ⟨by rw [HEE.out, if_neg (fun h => HQ.out h.1)]⟩
        go_wp2_with fail
        refine bodyPost_ret (v := .tuple #[.slice none 0 0, .int .i64 2]) (by simp [results, Try.f36, go_sem]) rfl ⟨_, by rw [HE.out], by rw [shakeR_n (by rw [HE.out]; decide)]; exact Kd.R_nil _ _ _ _ _, KB.out⟩
end Go.Proofs.Ytkglggggmlnleaa.Print
