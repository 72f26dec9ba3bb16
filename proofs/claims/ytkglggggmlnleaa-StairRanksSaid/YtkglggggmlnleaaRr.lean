/- The reference's Rank: the limits of a history's places, ordered. -/
import Derived.Test.YtkglggggmlnleaaTi
import Derived.Test.YtkglggggmlnleaaHr
namespace Go.Proofs.Ytkglggggmlnleaa.Print
open Go.RowKit Go.Proofs.YtkglggggmlnleaaW.PrintWords Go.Proofs.YtkglggggmlnleaaW.PrintLast Go.Proofs.YtkglggggmlnleaaW.PrintMore
set_option linter.unusedVariables false
set_option linter.unusedSimpArgs false
def f55.T6 : Bool × List (List Nat × List Nat) := (true, [([], []), ([0], [0]), ([], []), ([], []), ([2, 3], [2, 3]), ([4], [4]), ([], []), ([], []), ([6, 7], [6, 7]), ([8], [8]), ([1, 5, 9], [1, 5, 9]), ([], []), ([11, 10, 10, 0, 1, 2, 3, 4, 5, 6, 7, 8, 9, 10, 11], [10, 11])])
def f55.B6 : List Nat := [0, 1, 0, 0, 12, 28, 0, 0, 192, 448, 1023, 0, 4095]
theorem f55.tab6 : rtab .any (opsOf Try.f55 6) = f55.T6 := by kernel_rfl
theorem f55.bits6 : waitsOk f55.T6.2 f55.B6 = true := by kernel_rfl
def f55.T7 : Bool × List (List Nat × List Nat) := (true, [([], []), ([], []), ([1], [1]), ([2], [2]), ([0, 3], [0, 3]), ([], []), ([], []), ([6], [6]), ([7], [7]), ([5, 8, 4], [5, 8]), ([4, 9, 0, 1, 2, 3, 4], [0, 4]), ([9, 10, 0, 1, 2, 3, 4, 5, 6, 7, 8, 9, 10], [5, 9])])
def f55.B7 : List Nat := [0, 0, 2, 6, 15, 0, 0, 64, 192, 511, 1023, 2047]
theorem f55.tab7 : rtab .any (opsOf Try.f55 7) = f55.T7 := by kernel_rfl
theorem f55.bits7 : waitsOk f55.T7.2 f55.B7 = true := by kernel_rfl
def f55.T8 : Bool × List (List Nat × List Nat) := (true, [([], []), ([0], [0]), ([], []), ([1, 2], [1, 2]), ([3], [3]), ([], []), ([5, 1], [5]), ([], []), ([6, 7], [6, 7]), ([8], [8]), ([4, 9], [4, 9]), ([10, 6, 0, 1, 2, 3, 4, 5, 6, 7, 8, 9, 10], [10])])
def f55.B8 : List Nat := [0, 1, 0, 7, 15, 0, 35, 0, 227, 483, 1023, 2047]
theorem f55.tab8 : rtab .any (opsOf Try.f55 8) = f55.T8 := by kernel_rfl
theorem f55.bits8 : waitsOk f55.T8.2 f55.B8 = true := by kernel_rfl

theorem apart_after {β : Type} {d' : Kd β} {e' : Nat} {w : World} {base' : Nat} {ok' : Nat → Prop} {v v1 u : Value} {ys : List β} (hu : d'.R e' w base' ok' u ys) (h : ∀ q, v.ownBlock = some q → some q ≠ u.ownBlock) (hat : v1.ownBlock = v.ownBlock ∨ ∃ b, v1.ownBlock = some b ∧ w.heap.size ≤ b) : ∀ q, v1.ownBlock = some q → some q ≠ u.ownBlock := by
  rcases hat with h1 | h1
  · intro q hq; exact h q (h1 ▸ hq)
  · exact new_apart hu h1
theorem apart_after2 {β : Type} {d' : Kd β} {e' : Nat} {w : World} {base' : Nat} {ok' : Nat → Prop} {v u u1 : Value} {ys : List β} (hv : d'.R e' w base' ok' v ys) (h : ∀ q, v.ownBlock = some q → some q ≠ u.ownBlock) (hat : u1.ownBlock = u.ownBlock ∨ ∃ b, u1.ownBlock = some b ∧ w.heap.size ≤ b) : ∀ q, v.ownBlock = some q → some q ≠ u1.ownBlock := by
  rcases hat with h1 | h1
  · intro q hq; rw [h1]; exact h q hq
  · exact new_apart2 hv h1
theorem apart_sym {v u : Value} (h : ∀ q, v.ownBlock = some q → some q ≠ u.ownBlock) : ∀ q, u.ownBlock = some q → some q ≠ v.ownBlock := fun q hq e => h q e.symm hq.symm
theorem refsorted_n (A : Option Addr) (c : Nat) (xs : List Int) (w : World) (hr : Kd.C (Kd.int .i64) w A xs.length xs) (hn : xs.length ≤ 1000) (n : Nat) (hx : xs.length = n) (h0 : 0 < n) :
    Calls Try.prog 30 #[.slice A n c] w fun e w' => (∃ g cap, e = .returned (.slice (some ⟨g, 0, none⟩) n cap) ∧ Aside0 (∀ k : Nat, k < n → w'.cell? ⟨g, k, none⟩ = some (.int .i64 ((rising xs).getD k 0)))) ∧ Below w.heap.size w w' := by
  subst hx
  refine (refsorted_calls A c xs w hr hn).mono ?_
  rintro e w' ⟨v, rfl, hR, hb⟩
  have hl : (rising xs).length = xs.length := rs_len xs
  obtain ⟨g, cap, rfl, _, _, _⟩ := Kd.R_form hR (by omega)
  refine ⟨⟨g, cap, by rw [hl], ⟨fun k hk => ?_⟩⟩, hb⟩
  have := (Kd.R_celln (0 : Int) hR (k : Int) (by omega) (by omega)).1
  rw [Int.toNat_natCast] at this
  exact this
set_option maxHeartbeats 4000000 in
set_option maxRecDepth 100000 in
theorem refrank_calls (L st : Int) (A : Option Addr) (c : Nat) (l : List S43) (A1 : Option Addr) (c1 : Nat) (rs : List Int) (k : Nat) (w : World) (hr1 : Kd.C (Kd.int .u8) w A1 rs.length rs)
    (hL : L ≤ 8) (h0 : 0 ≤ st) (h1 : st < L) (hl : rs.length ≤ 1000) (hk : k < rs.length) :
    Calls Try.prog 55 #[.agg #[.int .i64 L, .int .i64 st, .slice A l.length c], .slice A1 rs.length c1, .int .i64 k] w fun e w' => e = .returned (.agg #[.int .i64 ((rising ((histOf L st rs).map (limit L false))).getD k 0), .int .i64 ((rising ((histOf L st rs).map (limit L true))).getD k 0)]) ∧ Below w.heap.size w w' := by
  have hu24 := Try.underlying24
  have hu97 := Try.underlying97
  have HR1 := Aside0.mk hr1
  have HN := Aside0.mk hl
  have HK := Aside0.mk hk
  have NP : Aside0 (0 < rs.length) := ⟨by omega⟩
  have KB : Aside0 (Below w.heap.size w ((w.alloc (.cells #[.int .i64 L, .int .i64 st, .slice A l.length c] 24)).alloc (.cells #[.int .i64 0, .int .i64 0] 97))) := ⟨((Below.refl _ w).alloc (by simp) _).alloc (by simp) _⟩
  have KX : Aside0 (((w.alloc (.cells #[.int .i64 L, .int .i64 st, .slice A l.length c] 24)).alloc (.cells #[.int .i64 0, .int .i64 0] 97)).heap[w.heap.size]? = some (.cells #[.int .i64 L, .int .i64 st, .slice A l.length c] 24 (0, 0))) := ⟨blk_alloc (new_at rfl) _⟩
  have KY : Aside0 (((w.alloc (.cells #[.int .i64 L, .int .i64 st, .slice A l.length c] 24)).alloc (.cells #[.int .i64 0, .int .i64 0] 97)).heap[w.heap.size + 1]? = some (.cells #[.int .i64 0, .int .i64 0] 97 (0, 0))) := ⟨new_at (by simp)⟩
  clear hr1 hk
  go_enter Try.func55, Try.ntmps55
  go_wp2_with fail
  refine (levels_calls L st A1 c1 rs _ (Kd.C_below HR1.out KB.out) hL h0 h1 HN.out).mono ?_
  rintro e w2 ⟨v2, rfl, hR2, hb2⟩
  obtain ⟨A3, c3, rfl, hc3, hC3⟩ := Kd.R_reads hR2
  rw [lvls_len] at hC3 ⊢
  have HC3 := Aside0.mk (show Kd.C (Kd.int .i64) w2 A3 (lvls L st rs).length (lvls L st rs) by rw [lvls_len]; exact hC3)
  replace KX := Aside0.mk (blk_below KX.out hb2)
  replace KY := Aside0.mk (blk_below KY.out hb2)
  replace KB := Aside0.mk (KB.out.trans (hb2.mono KB.out.size))
  clear hR2 hc3 hC3 hb2
  go_wp2_with fail
  go_loopw [8, 9, 10] (fun a b j wr => ∃ (vl vh : Value) (jn : Nat), jn ≤ rs.length ∧ vl = a ∧ vh = b ∧ j = .int .i64 jn ∧ Aside0 (Below w2.heap.size w2 wr) ∧ Aside0 (Kd.R (Kd.int .i64) 3 wr w2.heap.size (fun _ => True) vl (((histOf L st rs).take jn).map (limit L false))) ∧ Aside0 (Kd.R (Kd.int .i64) 3 wr w2.heap.size (fun _ => True) vh (((histOf L st rs).take jn).map (limit L true))) ∧ Aside0 (∀ q, vl.ownBlock = some q → some q ≠ vh.ownBlock)) (fun _ _ j _ => rs.length - (intOf j).toNat)
  case atStart => exact ⟨_, _, 0, by omega, rfl, rfl, rfl, ⟨Below.refl _ _⟩, ⟨Kd.R_nil _ _ _ _ _⟩, ⟨Kd.R_nil _ _ _ _ _⟩, ⟨fun q hq => by simp [Value.ownBlock] at hq⟩⟩
  case round =>
    obtain ⟨vl, vh, jn, hj, rfl, rfl, rfl, hbw, HLO, HHI, HDJ⟩ := hrel
    have HKr := Aside0.mk (blk_below KX.out hbw.out)
    have HYr := Aside0.mk (blk_below KY.out hbw.out)
    have HWr := Aside0.mk (KB.out.trans (hbw.out.mono KB.out.size))
    by_cases hj3 : jn < rs.length
    · have hj6 : decide ((jn : Int) < (rs.length : Int)) = true := decide_eq_true (by omega)
      have hj7 : (jn : Int) < (rs.length : Int) := by omega
      have hjb : (jn : Int) < 1000000 := by have := HN.out; omega
      obtain ⟨ad2, rfl, g2⟩ := cellU (Kd.C_below HR1.out HWr.out) jn hj3
      obtain ⟨ad3, rfl, g3⟩ := cellU (Kd.C_below HC3.out hbw.out) jn (by rw [lvls_len]; exact hj3)
      have hlv : (lvls L st rs)[jn]'(by rw [lvls_len]; exact hj3) = aft L st (rs.take jn) := by
        have := lvls_get L rs st jn hj3
        rw [List.getElem?_eq_getElem (by rw [lvls_len]; exact hj3)] at this
        exact Option.some.inj this
      rw [hlv] at g3
      have hav := aft_range (L := L) (rs.take jn) st h0 h1
      have hgt := histOf_get L rs st jn hj3
      have HT : Aside0 ((histOf L st rs).take (jn + 1) = (histOf L st rs).take jn ++ [(rs[jn], aft L st (rs.take jn))]) := ⟨by rw [List.take_add_one, hgt]; rfl⟩
      obtain ⟨av, hav2⟩ : ∃ av, aft L st (rs.take jn) = av := ⟨_, rfl⟩
      obtain ⟨rv, hrv⟩ : ∃ rv, rs[jn] = rv := ⟨_, rfl⟩
      rw [hav2] at g3 hav HT
      rw [hrv] at g2 HT
      have BND := Aside0.mk (fun W : World => bounds_calls L av rv W hL hav.1 hav.2)
      have hlo : limit L false (rv, av) = (bnd L (rv, av)).1 := rfl
      have hhi : limit L true (rv, av) = (bnd L (rv, av)).2 := rfl
      obtain ⟨lo, hlo2⟩ : ∃ lo, (bnd L (rv, av)).1 = lo := ⟨_, rfl⟩
      obtain ⟨hi, hhi2⟩ : ∃ hi, (bnd L (rv, av)).2 = hi := ⟨_, rfl⟩
      rw [hlo2] at hlo
      rw [hhi2] at hhi
      rw [hlo2, hhi2] at BND
      have HLH := Aside0.mk (And.intro hlo hhi)
      obtain ⟨los, hlos⟩ : ∃ los, ((histOf L st rs).take jn).map (limit L false) = los := ⟨_, rfl⟩
      obtain ⟨his, hhis⟩ : ∃ his, ((histOf L st rs).take jn).map (limit L true) = his := ⟨_, rfl⟩
      have HLS := Aside0.mk (And.intro hlos hhis)
      have HLEN : Aside0 (los.length ≤ 1000 ∧ his.length ≤ 1000) := ⟨by rw [← hlos, ← hhis]; simp only [List.length_map]; have := List.length_take_le jn (histOf L st rs); have := HN.out; omega⟩
      rw [hlos] at HLO
      rw [hhis] at HHI
      have HQ := Aside0.mk (And.intro ((blk_cell HKr.out 0).trans rfl : wr.cell? ⟨w.heap.size, 0, none⟩ = some (.int .i64 L)) (And.intro g3 g2))
      have HLT := Aside0.mk (And.intro (blk_lt HKr.out) (And.intro (World.block_lt_of_cell? _ _ g3) (World.block_lt_of_cell? _ _ g2)))
      clear hlv hav hav2 hrv hlo hhi hlo2 hhi2 g2 g3 hgt hlos hhis
      go_wp2_with fail
      refine start_ (n := 13) (S := (Below wr.heap.size wr)) (ds := [12]) #[false, false, false, false, false, false, false, false, false, false, false, false, false] (by kernel_rfl) rfl rfl ((Below.refl _ _).drew) (fun hHeld => ?_)
      refine with_tabW f55.tab6 f55.bits6 (fun HT_ HW_ => ?_)
      refine take_ (i := 0) (N := some 24) (v := ?_) (a' := ?_) #[true, false, false, false, false, false, false, false, false, false, false, false, false] rfl rfl (take_ofW HT_.out HW_.out (by kernel_rfl)) (fun _ _ _ h => h) (Or.inl ⟨by rfl, ?_⟩) hHeld ?_ ?_
      rotate_left
      · rintro w' hS
        have s0 := (hS.cell (p := ⟨w.heap.size, 0, none⟩) HLT.out.1).trans HQ.out.1
        have s1 := (hS.cell HLT.out.2.1).trans HQ.out.2.1
        have s2 := (hS.cell HLT.out.2.2).trans HQ.out.2.2
        clear hS
        go_simp
        with_reducible rfl
      rotate_left
      · simp only [Act.put, List.setIfInBounds_toArray, List.set_cons_zero, List.set_cons_succ, i64_w, i32_w]
        rfl
      refine take_ (i := 1) (N := some 25) (v := ?_) (a' := ?_) #[true, true, false, false, false, false, false, false, false, false, false, false, false] rfl rfl (take_ofW HT_.out HW_.out (by kernel_rfl)) (fun _ _ _ h => h) (Or.inl ⟨by rfl, ?_⟩) hHeld ?_ ?_
      rotate_left
      · rintro w' hS
        have s0 := (hS.cell (p := ⟨w.heap.size, 0, none⟩) HLT.out.1).trans HQ.out.1
        have s1 := (hS.cell HLT.out.2.1).trans HQ.out.2.1
        have s2 := (hS.cell HLT.out.2.2).trans HQ.out.2.2
        clear hS
        go_simp
        with_reducible rfl
      rotate_left
      · simp only [Act.put, List.setIfInBounds_toArray, List.set_cons_zero, List.set_cons_succ, i64_w, i32_w]
        rfl
      refine take_ (i := 2) (N := some 26) (v := ?_) (a' := ?_) #[true, true, true, false, false, false, false, false, false, false, false, false, false] rfl rfl (take_ofW HT_.out HW_.out (by kernel_rfl)) (fun _ _ _ h => h) (Or.inl ⟨by rfl, ?_⟩) hHeld ?_ ?_
      rotate_left
      · rintro w' hS
        have s0 := (hS.cell (p := ⟨w.heap.size, 0, none⟩) HLT.out.1).trans HQ.out.1
        have s1 := (hS.cell HLT.out.2.1).trans HQ.out.2.1
        have s2 := (hS.cell HLT.out.2.2).trans HQ.out.2.2
        clear hS
        go_simp
        with_reducible rfl
      rotate_left
      · simp only [Act.put, List.setIfInBounds_toArray, List.set_cons_zero, List.set_cons_succ, i64_w, i32_w]
        rfl
      refine take_ (i := 3) (N := some 27) (v := ?_) (a' := ?_) #[true, true, true, true, false, false, false, false, false, false, false, false, false] rfl rfl (take_ofW HT_.out HW_.out (by kernel_rfl)) (fun _ _ _ h => h) (Or.inl ⟨by rfl, ?_⟩) hHeld ?_ ?_
      rotate_left
      · rintro w' hS
        have s0 := (hS.cell (p := ⟨w.heap.size, 0, none⟩) HLT.out.1).trans HQ.out.1
        have s1 := (hS.cell HLT.out.2.1).trans HQ.out.2.1
        have s2 := (hS.cell HLT.out.2.2).trans HQ.out.2.2
        clear hS
        go_simp
        with_reducible rfl
      rotate_left
      · simp only [Act.put, List.setIfInBounds_toArray, List.set_cons_zero, List.set_cons_succ, i64_w, i32_w]
        rfl
      refine take_ (i := 4) (N := some 28) (v := ?_) (a' := ?_) #[true, true, true, true, true, false, false, false, false, false, false, false, false] rfl rfl (take_ofW HT_.out HW_.out (by kernel_rfl)) (fun _ _ _ h => h) (Or.inl ⟨by rfl, ?_⟩) hHeld ?_ ?_
      rotate_left
      · rintro w' hS
        have s0 := (hS.cell (p := ⟨w.heap.size, 0, none⟩) HLT.out.1).trans HQ.out.1
        have s1 := (hS.cell HLT.out.2.1).trans HQ.out.2.1
        have s2 := (hS.cell HLT.out.2.2).trans HQ.out.2.2
        clear hS
        go_simp
        with_reducible rfl
      rotate_left
      · simp only [Act.put, List.setIfInBounds_toArray, List.set_cons_zero, List.set_cons_succ, i64_w, i32_w]
        rfl
      refine take_ (i := 5) (N := some 29) (v := ?_) (a' := ?_) #[true, true, true, true, true, true, false, false, false, false, false, false, false] rfl rfl (take_ofW HT_.out HW_.out (by kernel_rfl)) (fun _ _ _ h => h) (Or.inl ⟨by rfl, ?_⟩) hHeld ?_ ?_
      rotate_left
      · rintro w' hS
        have s0 := (hS.cell (p := ⟨w.heap.size, 0, none⟩) HLT.out.1).trans HQ.out.1
        have s1 := (hS.cell HLT.out.2.1).trans HQ.out.2.1
        have s2 := (hS.cell HLT.out.2.2).trans HQ.out.2.2
        clear hS
        go_simp
        with_reducible rfl
      rotate_left
      · simp only [Act.put, List.setIfInBounds_toArray, List.set_cons_zero, List.set_cons_succ, i64_w, i32_w]
        rfl
      refine take_ (i := 6) (N := some 30) (v := ?_) (a' := ?_) #[true, true, true, true, true, true, true, false, false, false, false, false, false] rfl rfl (take_ofW HT_.out HW_.out (by kernel_rfl)) (fun _ _ _ h => h) (Or.inl ⟨by rfl, ?_⟩) hHeld ?_ ?_
      rotate_left
      · rintro w' hS
        have s0 := (hS.cell (p := ⟨w.heap.size, 0, none⟩) HLT.out.1).trans HQ.out.1
        have s1 := (hS.cell HLT.out.2.1).trans HQ.out.2.1
        have s2 := (hS.cell HLT.out.2.2).trans HQ.out.2.2
        clear hS
        go_simp
        with_reducible rfl
      rotate_left
      · simp only [Act.put, List.setIfInBounds_toArray, List.set_cons_zero, List.set_cons_succ, i64_w, i32_w]
        rfl
      refine take_ (i := 7) (N := some 31) (v := ?_) (a' := ?_) #[true, true, true, true, true, true, true, true, false, false, false, false, false] rfl rfl (take_ofW HT_.out HW_.out (by kernel_rfl)) (fun _ _ _ h => h) (Or.inl ⟨by rfl, ?_⟩) hHeld ?_ ?_
      rotate_left
      · rintro w' hS
        have s0 := (hS.cell (p := ⟨w.heap.size, 0, none⟩) HLT.out.1).trans HQ.out.1
        have s1 := (hS.cell HLT.out.2.1).trans HQ.out.2.1
        have s2 := (hS.cell HLT.out.2.2).trans HQ.out.2.2
        clear hS
        go_simp
        with_reducible rfl
      rotate_left
      · simp only [Act.put, List.setIfInBounds_toArray, List.set_cons_zero, List.set_cons_succ, i64_w, i32_w]
        rfl
      refine take_ (i := 8) (N := some 32) (v := ?_) (a' := ?_) #[true, true, true, true, true, true, true, true, true, false, false, false, false] rfl rfl (take_ofW HT_.out HW_.out (by kernel_rfl)) (fun _ _ _ h => h) (Or.inl ⟨by rfl, ?_⟩) hHeld ?_ ?_
      rotate_left
      · rintro w' hS
        have s0 := (hS.cell (p := ⟨w.heap.size, 0, none⟩) HLT.out.1).trans HQ.out.1
        have s1 := (hS.cell HLT.out.2.1).trans HQ.out.2.1
        have s2 := (hS.cell HLT.out.2.2).trans HQ.out.2.2
        clear hS
        go_simp
        with_reducible rfl
      rotate_left
      · simp only [Act.put, List.setIfInBounds_toArray, List.set_cons_zero, List.set_cons_succ, i64_w, i32_w]
        rfl
      refine take_ (i := 9) (N := some 33) (v := ?_) (a' := ?_) #[true, true, true, true, true, true, true, true, true, true, false, false, false] rfl rfl (take_ofW HT_.out HW_.out (by kernel_rfl)) (fun _ _ _ h => h) (Or.inl ⟨by rfl, ?_⟩) hHeld ?_ ?_
      rotate_left
      · rintro w' hS
        have s0 := (hS.cell (p := ⟨w.heap.size, 0, none⟩) HLT.out.1).trans HQ.out.1
        have s1 := (hS.cell HLT.out.2.1).trans HQ.out.2.1
        have s2 := (hS.cell HLT.out.2.2).trans HQ.out.2.2
        clear hS
        go_simp
        with_reducible rfl
      rotate_left
      · simp only [Act.put, List.setIfInBounds_toArray, List.set_cons_zero, List.set_cons_succ, i64_w, i32_w]
        rfl
      refine join_ (σ := Nat) 1 #[true, true, true, true, true, true, true, true, true, true, true, true, false] (fun s_ => [(34, .agg #[.int .i64 lo, .int .i64 hi]), (11, .pointer (some ⟨s_, 0, none⟩))]) (fun s_ w' => Below wr.heap.size wr w' ∧ w'.heap[s_]? = some (.cells #[.int .i64 0, .int .i64 0] 97 (0, 0)) ∧ wr.heap.size ≤ s_) ?_ ?_
      rotate_left
      · intro hCont
        refine two_ (i := 10) (j := 11) (Ni := some 34) (Nj := some 11) #[true, true, true, true, true, true, true, true, true, true, true, false, false] #[true, true, true, true, true, true, true, true, true, true, false, true, false] rfl rfl rfl rfl (two_of HT_.out (by kernel_rfl)) (by decide) (by decide) (fun K hK => ?_) (fun K hK => ?_)
        · refine goes_ Try.func56 (by kernel_rfl) rfl #[.int .i64 L, .int .i64 av, .int .u8 rv] (by rfl) rfl rfl (by (try simp only [List.map_toArray, List.map_cons, List.map_nil]); first | done | rfl) ?_
          refine (BND.out _).mono ?_
          rintro e w6 ⟨rfl, hb6⟩
          refine ⟨_, rfl, hK.out _ _ (hHeld.trans (hb6.mono hHeld.size)) ?_⟩
          clear hHeld hb6
          intro hHeld
          clear hK K
          refine norm_ (a' := ?_) ?_ ?_
          rotate_left
          · show Act.put _ (some 34) _ = _
            simp only [Act.put, List.setIfInBounds_toArray, List.set_cons_zero, List.set_cons_succ, i64_w, i32_w]
            rfl
          refine one_ (i := 11) (N := some 11) #[true, true, true, true, true, true, true, true, true, true, true, true, false] rfl rfl (one_of HT_.out (by kernel_rfl)) (by decide) (fun K hK => ?_)
          refine box_step ?hg (N := 11) ?hd (cs := #[.int .i64 0, .int .i64 0]) (t := 97) ?hr ?_; (case hd => rfl); (case hg => rfl); (case hr => first | (go_simp; done) | (go_simp; rfl))
          intro gb hgb w7 hbox hb7
          have GB := Aside0.mk (And.intro hbox (show wr.heap.size ≤ gb by rw [hgb]; exact hHeld.size))
          refine hK.out _ _ (hHeld.trans (hb7.mono hHeld.size)) ?_
          clear hHeld hbox hb7 hgb
          intro hHeld
          clear hK K
          refine norm_ (a' := ?_) ?_ ?_
          rotate_left
          · show Act.put _ (some 11) _ = _
            simp only [Act.put, List.setIfInBounds_toArray, List.set_cons_zero, List.set_cons_succ, i64_w, i32_w]
            rfl
          exact norm_ (by simp only [putAll, Act.put, List.setIfInBounds_toArray, List.set_cons_zero, List.set_cons_succ]) (hCont gb _ ⟨hHeld, GB.out.1, GB.out.2⟩)
        · refine box_step ?hg (N := 11) ?hd (cs := #[.int .i64 0, .int .i64 0]) (t := 97) ?hr ?_; (case hd => rfl); (case hg => rfl); (case hr => first | (go_simp; done) | (go_simp; rfl))
          intro gb hgb w7 hbox hb7
          have GB := Aside0.mk (And.intro hbox (show wr.heap.size ≤ gb by rw [hgb]; exact hHeld.size))
          refine hK.out _ _ (hHeld.trans (hb7.mono hHeld.size)) ?_
          clear hHeld hbox hb7 hgb
          intro hHeld
          clear hK K
          refine norm_ (a' := ?_) ?_ ?_
          rotate_left
          · show Act.put _ (some 11) _ = _
            simp only [Act.put, List.setIfInBounds_toArray, List.set_cons_zero, List.set_cons_succ, i64_w, i32_w]
            rfl
          refine one_ (i := 10) (N := some 34) #[true, true, true, true, true, true, true, true, true, true, true, true, false] rfl rfl (one_of HT_.out (by kernel_rfl)) (by decide) (fun K hK => ?_)
          refine goes_ Try.func56 (by kernel_rfl) rfl #[.int .i64 L, .int .i64 av, .int .u8 rv] (by rfl) rfl rfl (by (try simp only [List.map_toArray, List.map_cons, List.map_nil]); first | done | rfl) ?_
          refine (BND.out _).mono ?_
          rintro e w6 ⟨rfl, hb6⟩
          replace GB := Aside0.mk (And.intro (blk_below GB.out.1 hb6) GB.out.2)
          refine ⟨_, rfl, hK.out _ _ (hHeld.trans (hb6.mono hHeld.size)) ?_⟩
          clear hHeld hb6
          intro hHeld
          clear hK K
          refine norm_ (a' := ?_) ?_ ?_
          rotate_left
          · show Act.put _ (some 34) _ = _
            simp only [Act.put, List.setIfInBounds_toArray, List.set_cons_zero, List.set_cons_succ, i64_w, i32_w]
            rfl
          exact norm_ (by simp only [putAll, Act.put, List.setIfInBounds_toArray, List.set_cons_zero, List.set_cons_succ]) (hCont gb _ ⟨hHeld, GB.out.1, GB.out.2⟩)
      rintro gb w30 ⟨hHeld, hgb, hgl⟩
      have GB := Aside0.mk (And.intro hgb hgl)
      have HBG := Aside0.mk hHeld
      have t0 := (blk_cell hgb 0).trans rfl
      have t1 := (blk_cell hgb 1).trans rfl
      have t2 := blk_frozen hgb 0
      have t3 := blk_frozen hgb 1
      clear hgb hgl
      refine norm_ (a' := ?_) ?_ ?_
      rotate_left
      · simp only [putAll, Act.put, List.setIfInBounds_toArray, List.set_cons_zero, List.set_cons_succ]
        rfl
      refine last_ (i := 12) (N := none) #[true, true, true, true, true, true, true, true, true, true, true, true, true] rfl rfl (one_of HT_.out (by kernel_rfl)) (by decide) (fun K hK => ?_)
      refine skip_ (w1 := ?_) (by rfl) rfl ?_ ?_
      rotate_left
      · go_simp
        rfl
      refine hK.out _ _ ?_
      clear hK K
      refine done_ (done_of HT_.out (by kernel_rfl)) ?_
      have hbw3 : Below wr.heap.size wr ((w30.setCell ⟨gb, 0, none⟩ (.int .i64 lo)).setCell ⟨gb, 1, none⟩ (.int .i64 hi)) := below_set (below_set HBG.out GB.out.2) GB.out.2
      have HBW : Aside0 (Below w2.heap.size w2 ((w30.setCell ⟨gb, 0, none⟩ (.int .i64 lo)).setCell ⟨gb, 1, none⟩ (.int .i64 hi))) := ⟨hbw.out.trans (hbw3.mono hbw.out.size)⟩
      have HGB := Aside0.mk (blk_put (blk_put GB.out.1 0 (.int .i64 lo) rfl) 1 (.int .i64 hi) rfl)
      replace HLO := Aside0.mk (Kd.R_below HLO.out hbw3)
      replace HHI := Aside0.mk (Kd.R_below HHI.out hbw3)
      have HDL := Aside0.mk (apart_sym HDJ.out)
      clear t0 t1 t2 t3 hbw3
      go_wp2_with fail
      generalize ((w30.setCell ⟨gb, 0, none⟩ (.int .i64 lo)).setCell ⟨gb, 1, none⟩ (.int .i64 hi)) = W at HBW HGB HLO HHI ⊢
      refine start_ (n := 12) (S := (fun w' => Below w2.heap.size w2 w' ∧ w'.heap[gb]? = some (.cells #[.int .i64 lo, .int .i64 hi] 97 (0, 0)))) (ds := []) #[false, false, false, false, false, false, false, false, false, false, false, false] (by kernel_rfl) rfl rfl (⟨HBW.out.drew, HGB.out⟩) (fun hHeld => ?_)
      replace HLO := Aside0.mk (Kd.R_drew HLO.out)
      replace HHI := Aside0.mk (Kd.R_drew HHI.out)
      refine with_tabW f55.tab7 f55.bits7 (fun HT_ HW_ => ?_)
      refine take_ (i := 0) (N := some 35) (v := ?_) (a' := ?_) #[true, false, false, false, false, false, false, false, false, false, false, false] rfl rfl (take_ofW HT_.out HW_.out (by kernel_rfl)) (fun _ _ _ h => h) (Or.inl ⟨by rfl, ?_⟩) hHeld ?_ ?_
      rotate_left
      · rintro w' ⟨hS, hgb9⟩
        have t0 : w'.cell? ⟨gb, 0, none⟩ = some (.int .i64 lo) := (blk_cell hgb9 0).trans rfl
        have t1 : w'.cell? ⟨gb, 1, none⟩ = some (.int .i64 hi) := (blk_cell hgb9 1).trans rfl
        clear hS hgb9
        go_simp
        with_reducible rfl
      rotate_left
      · simp only [Act.put, List.setIfInBounds_toArray, List.set_cons_zero, List.set_cons_succ, i64_w, i32_w]
        rfl
      refine take_ (i := 1) (N := some 36) (v := ?_) (a' := ?_) #[true, true, false, false, false, false, false, false, false, false, false, false] rfl rfl (take_ofW HT_.out HW_.out (by kernel_rfl)) (fun _ _ _ h => h) (Or.inl ⟨by rfl, ?_⟩) hHeld ?_ ?_
      rotate_left
      · rintro w' ⟨hS, hgb9⟩
        have t0 : w'.cell? ⟨gb, 0, none⟩ = some (.int .i64 lo) := (blk_cell hgb9 0).trans rfl
        have t1 : w'.cell? ⟨gb, 1, none⟩ = some (.int .i64 hi) := (blk_cell hgb9 1).trans rfl
        clear hS hgb9
        go_simp
        with_reducible rfl
      rotate_left
      · simp only [Act.put, List.setIfInBounds_toArray, List.set_cons_zero, List.set_cons_succ, i64_w, i32_w]
        rfl
      refine take_ (i := 2) (N := some 37) (v := ?_) (a' := ?_) #[true, true, true, false, false, false, false, false, false, false, false, false] rfl rfl (take_ofW HT_.out HW_.out (by kernel_rfl)) (fun _ _ _ h => h) (Or.inl ⟨by rfl, ?_⟩) hHeld ?_ ?_
      rotate_left
      · rintro w' ⟨hS, hgb9⟩
        have t0 : w'.cell? ⟨gb, 0, none⟩ = some (.int .i64 lo) := (blk_cell hgb9 0).trans rfl
        have t1 : w'.cell? ⟨gb, 1, none⟩ = some (.int .i64 hi) := (blk_cell hgb9 1).trans rfl
        clear hS hgb9
        go_simp
        with_reducible rfl
      rotate_left
      · simp only [Act.put, List.setIfInBounds_toArray, List.set_cons_zero, List.set_cons_succ, i64_w, i32_w]
        rfl
      refine take_ (i := 5) (N := some 40) (v := ?_) (a' := ?_) #[true, true, true, false, false, true, false, false, false, false, false, false] rfl rfl (take_ofW HT_.out HW_.out (by kernel_rfl)) (fun _ _ _ h => h) (Or.inl ⟨by rfl, ?_⟩) hHeld ?_ ?_
      rotate_left
      · rintro w' ⟨hS, hgb9⟩
        have t0 : w'.cell? ⟨gb, 0, none⟩ = some (.int .i64 lo) := (blk_cell hgb9 0).trans rfl
        have t1 : w'.cell? ⟨gb, 1, none⟩ = some (.int .i64 hi) := (blk_cell hgb9 1).trans rfl
        clear hS hgb9
        go_simp
        with_reducible rfl
      rotate_left
      · simp only [Act.put, List.setIfInBounds_toArray, List.set_cons_zero, List.set_cons_succ, i64_w, i32_w]
        rfl
      refine take_ (i := 6) (N := some 41) (v := ?_) (a' := ?_) #[true, true, true, false, false, true, true, false, false, false, false, false] rfl rfl (take_ofW HT_.out HW_.out (by kernel_rfl)) (fun _ _ _ h => h) (Or.inl ⟨by rfl, ?_⟩) hHeld ?_ ?_
      rotate_left
      · rintro w' ⟨hS, hgb9⟩
        have t0 : w'.cell? ⟨gb, 0, none⟩ = some (.int .i64 lo) := (blk_cell hgb9 0).trans rfl
        have t1 : w'.cell? ⟨gb, 1, none⟩ = some (.int .i64 hi) := (blk_cell hgb9 1).trans rfl
        clear hS hgb9
        go_simp
        with_reducible rfl
      rotate_left
      · simp only [Act.put, List.setIfInBounds_toArray, List.set_cons_zero, List.set_cons_succ, i64_w, i32_w]
        rfl
      refine take_ (i := 7) (N := some 42) (v := ?_) (a' := ?_) #[true, true, true, false, false, true, true, true, false, false, false, false] rfl rfl (take_ofW HT_.out HW_.out (by kernel_rfl)) (fun _ _ _ h => h) (Or.inl ⟨by rfl, ?_⟩) hHeld ?_ ?_
      rotate_left
      · rintro w' ⟨hS, hgb9⟩
        have t0 : w'.cell? ⟨gb, 0, none⟩ = some (.int .i64 lo) := (blk_cell hgb9 0).trans rfl
        have t1 : w'.cell? ⟨gb, 1, none⟩ = some (.int .i64 hi) := (blk_cell hgb9 1).trans rfl
        clear hS hgb9
        go_simp
        with_reducible rfl
      rotate_left
      · simp only [Act.put, List.setIfInBounds_toArray, List.set_cons_zero, List.set_cons_succ, i64_w, i32_w]
        rfl
      refine join_ (σ := Value × Value × Value) 3 #[true, true, true, true, true, true, true, true, true, false, false, false] (fun s_ => [(38, s_.1), (39, s_.2.1), (43, s_.2.2)]) (fun s_ w' => (Below w2.heap.size w2 w' ∧ w'.heap[gb]? = some (.cells #[.int .i64 lo, .int .i64 hi] 97 (0, 0))) ∧ Kd.R (Kd.int .i64) 3 w' w2.heap.size (fun _ => True) s_.2.1 (los ++ [lo]) ∧ Kd.R (Kd.int .i64) 3 w' w2.heap.size (fun _ => True) vh his ∧ Kd.R (Kd.int .i64) 3 w' w2.heap.size (fun _ => True) s_.2.2 [hi] ∧ (∀ q, s_.2.1.ownBlock = some q → some q ≠ vh.ownBlock)) ?_ ?_
      rotate_left
      · intro hCont
        refine two_ (i := 3) (j := 8) (Ni := some 38) (Nj := some 43) #[true, true, true, true, false, true, true, true, false, false, false, false] #[true, true, true, false, false, true, true, true, true, false, false, false] rfl rfl rfl rfl (two_of HT_.out (by kernel_rfl)) (by decide) (by decide) (fun K hK => ?_) (fun K hK => ?_)
        · refine Kd.R_lit_step (Kd.int .i64) (w0 := w2) w2.heap.size 3 ?hg (N := 38) ?hd (xs := ([lo] : List Int)) (inner := [.int .i64 lo]) (ok := fun _ => True) (okp := fun _ => True) ?hr ?hp (fun _ hk => hk) trivial hHeld.1 hHeld.1.size (by simp) ?_; (case hd => rfl); (case hg => rfl); (case hr => first | (go_simp; done) | (go_simp; rfl)); (case hp => exact (Reps.one (show Kd.M (Kd.int .i64) _ _ _ lo [.int .i64 lo] from rfl) (Reps.none _ _)))
          intro v38 w38 hR hb hg hat
          have HV38 := Aside0.mk hR
          replace HLO := Aside0.mk (R_int_grown HLO.out hg (fun _ _ => by simp))
          replace HHI := Aside0.mk (R_int_grown HHI.out hg (fun _ _ => by simp))
          refine hK.out _ _ ⟨hb, blk_grown hHeld.2 hg (by simp)⟩ ?_
          clear hHeld hR hb hg hat
          intro hHeld
          clear hK K
          refine norm_ (a' := ?_) ?_ ?_
          rotate_left
          · show Act.put _ (some 38) _ = _
            simp only [Act.put, List.setIfInBounds_toArray, List.set_cons_zero, List.set_cons_succ, i64_w, i32_w]
            rfl
          refine two_ (i := 4) (j := 8) (Ni := some 39) (Nj := some 43) #[true, true, true, true, true, true, true, true, false, false, false, false] #[true, true, true, true, false, true, true, true, true, false, false, false] rfl rfl rfl rfl (two_of HT_.out (by kernel_rfl)) (by decide) (by decide) (fun K hK => ?_) (fun K hK => ?_)
          · obtain ⟨A38, c38, h38, hl38, hC38⟩ := Kd.R_reads HV38.out
            refine Kd.R_append_rows_step (Kd.int .i64) (w0 := w2) w2.heap.size (by rfl) (.tmp 35) (.tmp 38) 48 3 (.int .i64 0) 8 rfl Try.underlying48 info3 rfl (by decide) (by omega) vl los [lo] _ _ _ (fun _ => True) (fun _ => False) rfl h38 HLO.out hC38 (fun _ _ h => h) (fun _ h => h.elim) (fun _ _ => trivial) hHeld.1 hHeld.1.size (by have := HLEN.out; simp at this ⊢; omega) ?_
            intro v39 w39 hR hb hg hat
            have HV39 := Aside0.mk hR
            replace HDJ := Aside0.mk (apart_after HHI.out HDJ.out hat)
            have hGB := R_ne HLO.out hHeld.2 (by decide)
            replace HHI := Aside0.mk (R_int_grown HHI.out hg HDL.out)
            refine hK.out _ _ ⟨hb, blk_grown hHeld.2 hg hGB⟩ ?_
            clear hHeld hR hb hg hat
            intro hHeld
            clear hGB hl38 hC38 h38
            clear hK K
            refine norm_ (a' := ?_) ?_ ?_
            rotate_left
            · show Act.put _ (some 39) _ = _
              simp only [Act.put, List.setIfInBounds_toArray, List.set_cons_zero, List.set_cons_succ, i64_w, i32_w]
              rfl
            refine one_ (i := 8) (N := some 43) #[true, true, true, true, true, true, true, true, true, false, false, false] rfl rfl (one_of HT_.out (by kernel_rfl)) (by decide) (fun K hK => ?_)
            refine Kd.R_lit_step (Kd.int .i64) (w0 := w2) w2.heap.size 3 ?hg (N := 43) ?hd (xs := ([hi] : List Int)) (inner := [.int .i64 hi]) (ok := fun _ => True) (okp := fun _ => True) ?hr ?hp (fun _ hk => hk) trivial hHeld.1 hHeld.1.size (by simp) ?_; (case hd => rfl); (case hg => rfl); (case hr => first | (go_simp; done) | (go_simp; rfl)); (case hp => exact (Reps.one (show Kd.M (Kd.int .i64) _ _ _ hi [.int .i64 hi] from rfl) (Reps.none _ _)))
            intro v43 w43 hR hb hg hat
            have HV43 := Aside0.mk hR
            replace HHI := Aside0.mk (R_int_grown HHI.out hg (fun _ _ => by simp))
            replace HV39 := Aside0.mk (R_int_grown HV39.out hg (fun _ _ => by simp))
            refine hK.out _ _ ⟨hb, blk_grown hHeld.2 hg (by simp)⟩ ?_
            clear hHeld hR hb hg hat
            intro hHeld
            clear hK K
            refine norm_ (a' := ?_) ?_ ?_
            rotate_left
            · show Act.put _ (some 43) _ = _
              simp only [Act.put, List.setIfInBounds_toArray, List.set_cons_zero, List.set_cons_succ, i64_w, i32_w]
              rfl
            exact norm_ (by simp only [putAll, Act.put, List.setIfInBounds_toArray, List.set_cons_zero, List.set_cons_succ]) (hCont (v38, v39, v43) _ ⟨hHeld, HV39.out, HHI.out, HV43.out, HDJ.out⟩)
          · refine Kd.R_lit_step (Kd.int .i64) (w0 := w2) w2.heap.size 3 ?hg (N := 43) ?hd (xs := ([hi] : List Int)) (inner := [.int .i64 hi]) (ok := fun _ => True) (okp := fun _ => True) ?hr ?hp (fun _ hk => hk) trivial hHeld.1 hHeld.1.size (by simp) ?_; (case hd => rfl); (case hg => rfl); (case hr => first | (go_simp; done) | (go_simp; rfl)); (case hp => exact (Reps.one (show Kd.M (Kd.int .i64) _ _ _ hi [.int .i64 hi] from rfl) (Reps.none _ _)))
            intro v43 w43 hR hb hg hat
            have HV43 := Aside0.mk hR
            have HD43 := Aside0.mk (new_apart HLO.out hat)
            replace HLO := Aside0.mk (R_int_grown HLO.out hg (fun _ _ => by simp))
            replace HHI := Aside0.mk (R_int_grown HHI.out hg (fun _ _ => by simp))
            replace HV38 := Aside0.mk (R_int_grown HV38.out hg (fun _ _ => by simp))
            refine hK.out _ _ ⟨hb, blk_grown hHeld.2 hg (by simp)⟩ ?_
            clear hHeld hR hb hg hat
            intro hHeld
            clear hK K
            refine norm_ (a' := ?_) ?_ ?_
            rotate_left
            · show Act.put _ (some 43) _ = _
              simp only [Act.put, List.setIfInBounds_toArray, List.set_cons_zero, List.set_cons_succ, i64_w, i32_w]
              rfl
            refine one_ (i := 4) (N := some 39) #[true, true, true, true, true, true, true, true, true, false, false, false] rfl rfl (one_of HT_.out (by kernel_rfl)) (by decide) (fun K hK => ?_)
            obtain ⟨A38, c38, h38, hl38, hC38⟩ := Kd.R_reads HV38.out
            refine Kd.R_append_rows_step (Kd.int .i64) (w0 := w2) w2.heap.size (by rfl) (.tmp 35) (.tmp 38) 48 3 (.int .i64 0) 8 rfl Try.underlying48 info3 rfl (by decide) (by omega) vl los [lo] _ _ _ (fun _ => True) (fun _ => False) rfl h38 HLO.out hC38 (fun _ _ h => h) (fun _ h => h.elim) (fun _ _ => trivial) hHeld.1 hHeld.1.size (by have := HLEN.out; simp at this ⊢; omega) ?_
            intro v39 w39 hR hb hg hat
            have HV39 := Aside0.mk hR
            replace HDJ := Aside0.mk (apart_after HHI.out HDJ.out hat)
            have hGB := R_ne HLO.out hHeld.2 (by decide)
            replace HHI := Aside0.mk (R_int_grown HHI.out hg HDL.out)
            replace HV43 := Aside0.mk (R_int_grown HV43.out hg HD43.out)
            refine hK.out _ _ ⟨hb, blk_grown hHeld.2 hg hGB⟩ ?_
            clear hHeld hR hb hg hat
            intro hHeld
            clear hGB hl38 hC38 h38
            clear hK K
            refine norm_ (a' := ?_) ?_ ?_
            rotate_left
            · show Act.put _ (some 39) _ = _
              simp only [Act.put, List.setIfInBounds_toArray, List.set_cons_zero, List.set_cons_succ, i64_w, i32_w]
              rfl
            exact norm_ (by simp only [putAll, Act.put, List.setIfInBounds_toArray, List.set_cons_zero, List.set_cons_succ]) (hCont (v38, v39, v43) _ ⟨hHeld, HV39.out, HHI.out, HV43.out, HDJ.out⟩)
        · refine Kd.R_lit_step (Kd.int .i64) (w0 := w2) w2.heap.size 3 ?hg (N := 43) ?hd (xs := ([hi] : List Int)) (inner := [.int .i64 hi]) (ok := fun _ => True) (okp := fun _ => True) ?hr ?hp (fun _ hk => hk) trivial hHeld.1 hHeld.1.size (by simp) ?_; (case hd => rfl); (case hg => rfl); (case hr => first | (go_simp; done) | (go_simp; rfl)); (case hp => exact (Reps.one (show Kd.M (Kd.int .i64) _ _ _ hi [.int .i64 hi] from rfl) (Reps.none _ _)))
          intro v43 w43 hR hb hg hat
          have HV43 := Aside0.mk hR
          have HD43 := Aside0.mk (new_apart HLO.out hat)
          replace HLO := Aside0.mk (R_int_grown HLO.out hg (fun _ _ => by simp))
          replace HHI := Aside0.mk (R_int_grown HHI.out hg (fun _ _ => by simp))
          refine hK.out _ _ ⟨hb, blk_grown hHeld.2 hg (by simp)⟩ ?_
          clear hHeld hR hb hg hat
          intro hHeld
          clear hK K
          refine norm_ (a' := ?_) ?_ ?_
          rotate_left
          · show Act.put _ (some 43) _ = _
            simp only [Act.put, List.setIfInBounds_toArray, List.set_cons_zero, List.set_cons_succ, i64_w, i32_w]
            rfl
          refine one_ (i := 3) (N := some 38) #[true, true, true, true, false, true, true, true, true, false, false, false] rfl rfl (one_of HT_.out (by kernel_rfl)) (by decide) (fun K hK => ?_)
          refine Kd.R_lit_step (Kd.int .i64) (w0 := w2) w2.heap.size 3 ?hg (N := 38) ?hd (xs := ([lo] : List Int)) (inner := [.int .i64 lo]) (ok := fun _ => True) (okp := fun _ => True) ?hr ?hp (fun _ hk => hk) trivial hHeld.1 hHeld.1.size (by simp) ?_; (case hd => rfl); (case hg => rfl); (case hr => first | (go_simp; done) | (go_simp; rfl)); (case hp => exact (Reps.one (show Kd.M (Kd.int .i64) _ _ _ lo [.int .i64 lo] from rfl) (Reps.none _ _)))
          intro v38 w38 hR hb hg hat
          have HV38 := Aside0.mk hR
          replace HLO := Aside0.mk (R_int_grown HLO.out hg (fun _ _ => by simp))
          replace HHI := Aside0.mk (R_int_grown HHI.out hg (fun _ _ => by simp))
          replace HV43 := Aside0.mk (R_int_grown HV43.out hg (fun _ _ => by simp))
          refine hK.out _ _ ⟨hb, blk_grown hHeld.2 hg (by simp)⟩ ?_
          clear hHeld hR hb hg hat
          intro hHeld
          clear hK K
          refine norm_ (a' := ?_) ?_ ?_
          rotate_left
          · show Act.put _ (some 38) _ = _
            simp only [Act.put, List.setIfInBounds_toArray, List.set_cons_zero, List.set_cons_succ, i64_w, i32_w]
            rfl
          refine one_ (i := 4) (N := some 39) #[true, true, true, true, true, true, true, true, true, false, false, false] rfl rfl (one_of HT_.out (by kernel_rfl)) (by decide) (fun K hK => ?_)
          obtain ⟨A38, c38, h38, hl38, hC38⟩ := Kd.R_reads HV38.out
          refine Kd.R_append_rows_step (Kd.int .i64) (w0 := w2) w2.heap.size (by rfl) (.tmp 35) (.tmp 38) 48 3 (.int .i64 0) 8 rfl Try.underlying48 info3 rfl (by decide) (by omega) vl los [lo] _ _ _ (fun _ => True) (fun _ => False) rfl h38 HLO.out hC38 (fun _ _ h => h) (fun _ h => h.elim) (fun _ _ => trivial) hHeld.1 hHeld.1.size (by have := HLEN.out; simp at this ⊢; omega) ?_
          intro v39 w39 hR hb hg hat
          have HV39 := Aside0.mk hR
          replace HDJ := Aside0.mk (apart_after HHI.out HDJ.out hat)
          have hGB := R_ne HLO.out hHeld.2 (by decide)
          replace HHI := Aside0.mk (R_int_grown HHI.out hg HDL.out)
          replace HV43 := Aside0.mk (R_int_grown HV43.out hg HD43.out)
          refine hK.out _ _ ⟨hb, blk_grown hHeld.2 hg hGB⟩ ?_
          clear hHeld hR hb hg hat
          intro hHeld
          clear hGB hl38 hC38 h38
          clear hK K
          refine norm_ (a' := ?_) ?_ ?_
          rotate_left
          · show Act.put _ (some 39) _ = _
            simp only [Act.put, List.setIfInBounds_toArray, List.set_cons_zero, List.set_cons_succ, i64_w, i32_w]
            rfl
          exact norm_ (by simp only [putAll, Act.put, List.setIfInBounds_toArray, List.set_cons_zero, List.set_cons_succ]) (hCont (v38, v39, v43) _ ⟨hHeld, HV39.out, HHI.out, HV43.out, HDJ.out⟩)
      rintro ⟨v38, v39, v43⟩ w40 ⟨hHeld, hg1, hg2, hg3, hg4⟩
      have HV39 := Aside0.mk hg1
      replace HHI := Aside0.mk hg2
      have HV43 := Aside0.mk hg3
      replace HDJ := Aside0.mk hg4
      clear hg1 hg2 hg3 hg4 HLO HDL
      refine norm_ (a' := ?_) ?_ ?_
      rotate_left
      · simp only [putAll, Act.put, List.setIfInBounds_toArray, List.set_cons_zero, List.set_cons_succ]
        rfl
      refine one_ (i := 9) (N := some 44) #[true, true, true, true, true, true, true, true, true, true, false, false] rfl rfl (one_of HT_.out (by kernel_rfl)) (by decide) (fun K hK => ?_)
      obtain ⟨A43, c43, h43, hl43, hC43⟩ := Kd.R_reads HV43.out
      refine Kd.R_append_rows_step (Kd.int .i64) (w0 := w2) w2.heap.size (by rfl) (.tmp 40) (.tmp 43) 48 3 (.int .i64 0) 8 rfl Try.underlying48 info3 rfl (by decide) (by omega) vh his [hi] _ _ _ (fun _ => True) (fun _ => False) rfl h43 HHI.out hC43 (fun _ _ h => h) (fun _ h => h.elim) (fun _ _ => trivial) hHeld.1 hHeld.1.size (by have := HLEN.out; simp at this ⊢; omega) ?_
      intro v44 w44 hR hb hg hat
      have HV44 := Aside0.mk hR
      have hGB := R_ne HHI.out hHeld.2 (by decide)
      have HDJ2 := Aside0.mk (apart_after2 HV39.out HDJ.out hat)
      replace HV39 := Aside0.mk (R_int_grown HV39.out hg HDJ.out)
      refine hK.out _ _ ⟨hb, blk_grown hHeld.2 hg hGB⟩ ?_
      clear hHeld hR hb hg hat
      intro hHeld
      clear hGB hl43 hC43 h43
      clear hK K
      refine norm_ (a' := ?_) ?_ ?_
      rotate_left
      · show Act.put _ (some 44) _ = _
        simp only [Act.put, List.setIfInBounds_toArray, List.set_cons_zero, List.set_cons_succ, i64_w, i32_w]
        rfl
      refine take_ (i := 10) (N := some 8) (v := ?_) (a' := ?_) #[true, true, true, true, true, true, true, true, true, true, true, false] rfl rfl (take_ofW HT_.out HW_.out (by kernel_rfl)) (fun _ _ _ h => h) (Or.inl ⟨by rfl, ?_⟩) hHeld ?_ ?_
      rotate_left
      · rintro w' ⟨hS, hgb9⟩
        have t0 : w'.cell? ⟨gb, 0, none⟩ = some (.int .i64 lo) := (blk_cell hgb9 0).trans rfl
        have t1 : w'.cell? ⟨gb, 1, none⟩ = some (.int .i64 hi) := (blk_cell hgb9 1).trans rfl
        clear hS hgb9
        go_simp
        with_reducible rfl
      rotate_left
      · simp only [Act.put, List.setIfInBounds_toArray, List.set_cons_zero, List.set_cons_succ, i64_w, i32_w]
        rfl
      refine take_ (i := 11) (N := some 9) (v := ?_) (a' := ?_) #[true, true, true, true, true, true, true, true, true, true, true, true] rfl rfl (take_ofW HT_.out HW_.out (by kernel_rfl)) (fun _ _ _ h => h) (Or.inl ⟨by rfl, ?_⟩) hHeld ?_ ?_
      rotate_left
      · rintro w' ⟨hS, hgb9⟩
        have t0 : w'.cell? ⟨gb, 0, none⟩ = some (.int .i64 lo) := (blk_cell hgb9 0).trans rfl
        have t1 : w'.cell? ⟨gb, 1, none⟩ = some (.int .i64 hi) := (blk_cell hgb9 1).trans rfl
        clear hS hgb9
        go_simp
        with_reducible rfl
      rotate_left
      · simp only [Act.put, List.setIfInBounds_toArray, List.set_cons_zero, List.set_cons_succ, i64_w, i32_w]
        rfl
      refine done_ (done_of HT_.out (by kernel_rfl)) ?_
      go_wp2_with fail
      go_roundw
      case rel => exact ⟨_, _, jn + 1, by omega, rfl, rfl, by go_num, ⟨hHeld.1⟩, ⟨by rw [HT.out, List.map_append, HLS.out.1, List.map_cons, List.map_nil, HLH.out.1]; exact HV39.out⟩, ⟨by rw [HT.out, List.map_append, HLS.out.2, List.map_cons, List.map_nil, HLH.out.2]; exact HV44.out⟩, HDJ2⟩
      case measure => simp [intOf]; omega
    · have hj6 : decide ((jn : Int) < (rs.length : Int)) = false := decide_eq_false (by omega)
      have htk : (histOf L st rs).take jn = histOf L st rs := List.take_of_length_le (by rw [histOf_length]; omega)
      rw [htk] at HLO HHI
      obtain ⟨n, hn⟩ : ∃ n, rs.length = n := ⟨_, rfl⟩
      obtain ⟨los, hlos⟩ : ∃ los, (histOf L st rs).map (limit L false) = los := ⟨_, rfl⟩
      obtain ⟨his, hhis⟩ : ∃ his, (histOf L st rs).map (limit L true) = his := ⟨_, rfl⟩
      have Ll : Aside0 (los.length = n) := ⟨by rw [← hlos, List.length_map, histOf_length, hn]⟩
      have Lh : Aside0 (his.length = n) := ⟨by rw [← hhis, List.length_map, histOf_length, hn]⟩
      have HLS := Aside0.mk (And.intro hlos hhis)
      rw [hlos] at HLO
      rw [hhis] at HHI
      obtain ⟨Al, cl, rfl, hcl, hCl⟩ := Kd.R_reads HLO.out
      obtain ⟨Ah, ch, rfl, hch, hCh⟩ := Kd.R_reads HHI.out
      have Cl := Aside0.mk hCl
      have Ch := Aside0.mk hCh
      rw [hn] at HK NP HN
      rw [Ll.out, Lh.out]
      obtain ⟨x, hx⟩ : ∃ x, (rising los).getD k 0 = x := ⟨_, rfl⟩
      obtain ⟨y, hy⟩ : ∃ y, (rising his).getD k 0 = y := ⟨_, rfl⟩
      have E1 := Aside0.mk hx
      have E2 := Aside0.mk hy
      have QY := Aside0.mk (And.intro ((blk_cell HYr.out 0).trans rfl : wr.cell? ⟨w.heap.size + 1, 0, none⟩ = some (.int .i64 0)) (And.intro ((blk_cell HYr.out 1).trans rfl : wr.cell? ⟨w.heap.size + 1, 1, none⟩ = some (.int .i64 0)) (And.intro (blk_frozen HYr.out 0) (blk_frozen HYr.out 1))))
      have LY := Aside0.mk (blk_lt HYr.out)
      have hk7 : (k : Int) < (n : Int) := by have := HK.out; omega
      have hkn : k < n := HK.out
      clear hn hlos hhis hcl hch hCl hCh hx hy HLO HHI htk hj
      go_wp2_with fail
      generalize wr = W at HKr HYr HWr Cl Ch QY LY hbw ⊢
      refine start_ (n := 12) (S := (Below W.heap.size W)) (ds := [11]) #[false, false, false, false, false, false, false, false, false, false, false, false] (by kernel_rfl) rfl rfl ((Below.refl _ _).drew) (fun hHeld => ?_)
      refine with_tabW f55.tab8 f55.bits8 (fun HT_ HW_ => ?_)
      refine take_ (i := 0) (N := some 45) (v := ?_) (a' := ?_) #[true, false, false, false, false, false, false, false, false, false, false, false] rfl rfl (take_ofW HT_.out HW_.out (by kernel_rfl)) (fun _ _ _ h => h) (Or.inl ⟨by rfl, ?_⟩) hHeld ?_ ?_
      rotate_left
      · rintro w' hS
        go_simp
        with_reducible rfl
      rotate_left
      · simp only [Act.put, List.setIfInBounds_toArray, List.set_cons_zero, List.set_cons_succ, i64_w, i32_w]
        rfl
      refine take_ (i := 2) (N := some 47) (v := ?_) (a' := ?_) #[true, false, true, false, false, false, false, false, false, false, false, false] rfl rfl (take_ofW HT_.out HW_.out (by kernel_rfl)) (fun _ _ _ h => h) (Or.inl ⟨by rfl, ?_⟩) hHeld ?_ ?_
      rotate_left
      · rintro w' hS
        go_simp
        with_reducible rfl
      rotate_left
      · simp only [Act.put, List.setIfInBounds_toArray, List.set_cons_zero, List.set_cons_succ, i64_w, i32_w]
        rfl
      refine take_ (i := 5) (N := some 50) (v := ?_) (a' := ?_) #[true, false, true, false, false, true, false, false, false, false, false, false] rfl rfl (take_ofW HT_.out HW_.out (by kernel_rfl)) (fun _ _ _ h => h) (Or.inl ⟨by rfl, ?_⟩) hHeld ?_ ?_
      rotate_left
      · rintro w' hS
        go_simp
        with_reducible rfl
      rotate_left
      · simp only [Act.put, List.setIfInBounds_toArray, List.set_cons_zero, List.set_cons_succ, i64_w, i32_w]
        rfl
      refine take_ (i := 7) (N := some 52) (v := ?_) (a' := ?_) #[true, false, true, false, false, true, false, true, false, false, false, false] rfl rfl (take_ofW HT_.out HW_.out (by kernel_rfl)) (fun _ _ _ h => h) (Or.inl ⟨by rfl, ?_⟩) hHeld ?_ ?_
      rotate_left
      · rintro w' hS
        go_simp
        with_reducible rfl
      rotate_left
      · simp only [Act.put, List.setIfInBounds_toArray, List.set_cons_zero, List.set_cons_succ, i64_w, i32_w]
        rfl
      refine one_ (i := 1) (N := some 46) #[true, true, true, false, false, true, false, true, false, false, false, false] rfl rfl (one_of HT_.out (by kernel_rfl)) (by decide) (fun K hK => ?_)
      refine goes_ Try.func30 (by kernel_rfl) rfl #[.slice Al n cl] (by rfl) rfl rfl (by (try simp only [List.map_toArray, List.map_cons, List.map_nil]); first | done | rfl) ?_
      refine (refsorted_n Al cl los _ (Kd.C_below Cl.out hHeld) (by have := Ll.out; have := HN.out; omega) n Ll.out NP.out).mono ?_
      rintro e w8 ⟨⟨g1, cap1, rfl, G1⟩, hb8⟩
      have k1 := G1.out k HK.out
      have e1 : w8.cell? ⟨g1, k, none⟩ = some (.int .i64 x) := by rw [k1, E1.out]
      refine ⟨_, rfl, hK.out _ _ (hHeld.trans (hb8.mono hHeld.size)) ?_⟩
      clear hHeld k1 hb8
      intro hHeld
      replace G1 := Aside0.mk (And.intro e1 (World.block_lt_of_cell? _ _ e1))
      clear e1
      clear hK K
      refine norm_ (a' := ?_) ?_ ?_
      rotate_left
      · show Act.put _ (some 46) _ = _
        simp only [Act.put, List.setIfInBounds_toArray, List.set_cons_zero, List.set_cons_succ, i64_w, i32_w]
        rfl
      have q1 := G1.out.1
      refine take_ (i := 3) (N := some 48) (v := ?_) (a' := ?_) #[true, true, true, true, false, true, false, true, false, false, false, false] rfl rfl (take_ofW HT_.out HW_.out (by kernel_rfl)) (fun _ _ _ h => h) (Or.inl ⟨by rfl, ?_⟩) hHeld ?_ ?_
      rotate_left
      · rintro w' hS
        go_simp
        with_reducible rfl
      rotate_left
      · simp only [Act.put, List.setIfInBounds_toArray, List.set_cons_zero, List.set_cons_succ, i64_w, i32_w]
        rfl
      refine join_ (σ := Nat × Nat) 2 #[true, true, true, true, true, true, true, true, true, true, false, false] (fun s_ => [(49, .int .i64 x), (51, .slice (some ⟨s_.1, 0, none⟩) n s_.2), (53, .pointer (some ⟨s_.1, k, none⟩)), (54, .int .i64 y)]) (fun s_ w' => Below W.heap.size W w') ?_ ?_
      rotate_left
      · intro hCont
        refine two_ (i := 4) (j := 6) (Ni := some 49) (Nj := some 51) #[true, true, true, true, true, true, false, true, false, false, false, false] #[true, true, true, true, false, true, true, true, false, false, false, false] rfl rfl rfl rfl (two_of HT_.out (by kernel_rfl)) (by decide) (by decide) (fun K hK => ?_) (fun K hK => ?_)
        · refine value_ (v := .int .i64 x) (w1 := w8) (by rfl) rfl (by go_simp) ?_
          refine hK.out _ _ hHeld ?_
          clear hHeld
          intro hHeld
          clear hK K
          refine norm_ (a' := ?_) ?_ ?_
          rotate_left
          · show Act.put _ (some 49) _ = _
            simp only [Act.put, List.setIfInBounds_toArray, List.set_cons_zero, List.set_cons_succ, i64_w, i32_w]
            rfl
          clear q1
          refine one_ (i := 6) (N := some 51) #[true, true, true, true, true, true, true, true, false, false, false, false] rfl rfl (one_of HT_.out (by kernel_rfl)) (by decide) (fun K hK => ?_)
          refine goes_ Try.func30 (by kernel_rfl) rfl #[.slice Ah n ch] (by rfl) rfl rfl (by (try simp only [List.map_toArray, List.map_cons, List.map_nil]); first | done | rfl) ?_
          refine (refsorted_n Ah ch his _ (Kd.C_below Ch.out hHeld) (by have := Lh.out; have := HN.out; omega) n Lh.out NP.out).mono ?_
          rintro e w8 ⟨⟨g2, cap2, rfl, G2⟩, hb8⟩
          have k2 := G2.out k HK.out
          have e2 : w8.cell? ⟨g2, k, none⟩ = some (.int .i64 y) := by rw [k2, E2.out]
          refine ⟨_, rfl, hK.out _ _ (hHeld.trans (hb8.mono hHeld.size)) ?_⟩
          clear hHeld k2 hb8
          intro hHeld
          replace G2 := Aside0.mk (And.intro e2 (World.block_lt_of_cell? _ _ e2))
          clear e2
          clear hK K
          refine norm_ (a' := ?_) ?_ ?_
          rotate_left
          · show Act.put _ (some 51) _ = _
            simp only [Act.put, List.setIfInBounds_toArray, List.set_cons_zero, List.set_cons_succ, i64_w, i32_w]
            rfl
          have q2 := G2.out.1
          refine take_ (i := 8) (N := some 53) (v := ?_) (a' := ?_) #[true, true, true, true, true, true, true, true, true, false, false, false] rfl rfl (take_ofW HT_.out HW_.out (by kernel_rfl)) (fun _ _ _ h => h) (Or.inl ⟨by rfl, ?_⟩) hHeld ?_ ?_
          rotate_left
          · rintro w' hS
            go_simp
            with_reducible rfl
          rotate_left
          · simp only [Act.put, List.setIfInBounds_toArray, List.set_cons_zero, List.set_cons_succ, i64_w, i32_w]
            rfl
          refine one_ (i := 9) (N := some 54) #[true, true, true, true, true, true, true, true, true, true, false, false] rfl rfl (one_of HT_.out (by kernel_rfl)) (by decide) (fun K hK => ?_)
          refine value_ (v := .int .i64 y) (w1 := w8) (by rfl) rfl (by go_simp) ?_
          refine hK.out _ _ hHeld ?_
          clear hHeld
          intro hHeld
          clear hK K
          refine norm_ (a' := ?_) ?_ ?_
          rotate_left
          · show Act.put _ (some 54) _ = _
            simp only [Act.put, List.setIfInBounds_toArray, List.set_cons_zero, List.set_cons_succ, i64_w, i32_w]
            rfl
          exact norm_ (by simp only [putAll, Act.put, List.setIfInBounds_toArray, List.set_cons_zero, List.set_cons_succ]) (hCont (g2, cap2) _ hHeld)
        · clear q1
          refine goes_ Try.func30 (by kernel_rfl) rfl #[.slice Ah n ch] (by rfl) rfl rfl (by (try simp only [List.map_toArray, List.map_cons, List.map_nil]); first | done | rfl) ?_
          refine (refsorted_n Ah ch his _ (Kd.C_below Ch.out hHeld) (by have := Lh.out; have := HN.out; omega) n Lh.out NP.out).mono ?_
          rintro e w8 ⟨⟨g2, cap2, rfl, G2⟩, hb8⟩
          have k2 := G2.out k HK.out
          have e2 : w8.cell? ⟨g2, k, none⟩ = some (.int .i64 y) := by rw [k2, E2.out]
          have q1 := (hb8.cell G1.out.2).trans G1.out.1
          refine ⟨_, rfl, hK.out _ _ (hHeld.trans (hb8.mono hHeld.size)) ?_⟩
          clear hHeld k2 hb8
          intro hHeld
          replace G2 := Aside0.mk (And.intro e2 (World.block_lt_of_cell? _ _ e2))
          clear e2
          clear hK K
          refine norm_ (a' := ?_) ?_ ?_
          rotate_left
          · show Act.put _ (some 51) _ = _
            simp only [Act.put, List.setIfInBounds_toArray, List.set_cons_zero, List.set_cons_succ, i64_w, i32_w]
            rfl
          have q2 := G2.out.1
          refine take_ (i := 8) (N := some 53) (v := ?_) (a' := ?_) #[true, true, true, true, false, true, true, true, true, false, false, false] rfl rfl (take_ofW HT_.out HW_.out (by kernel_rfl)) (fun _ _ _ h => h) (Or.inl ⟨by rfl, ?_⟩) hHeld ?_ ?_
          rotate_left
          · rintro w' hS
            go_simp
            with_reducible rfl
          rotate_left
          · simp only [Act.put, List.setIfInBounds_toArray, List.set_cons_zero, List.set_cons_succ, i64_w, i32_w]
            rfl
          refine two_ (i := 4) (j := 9) (Ni := some 49) (Nj := some 54) #[true, true, true, true, true, true, true, true, true, false, false, false] #[true, true, true, true, false, true, true, true, true, true, false, false] rfl rfl rfl rfl (two_of HT_.out (by kernel_rfl)) (by decide) (by decide) (fun K hK => ?_) (fun K hK => ?_)
          · refine value_ (v := .int .i64 x) (w1 := w8) (by rfl) rfl (by go_simp) ?_
            refine hK.out _ _ hHeld ?_
            clear hHeld
            intro hHeld
            clear hK K
            refine norm_ (a' := ?_) ?_ ?_
            rotate_left
            · show Act.put _ (some 49) _ = _
              simp only [Act.put, List.setIfInBounds_toArray, List.set_cons_zero, List.set_cons_succ, i64_w, i32_w]
              rfl
            refine one_ (i := 9) (N := some 54) #[true, true, true, true, true, true, true, true, true, true, false, false] rfl rfl (one_of HT_.out (by kernel_rfl)) (by decide) (fun K hK => ?_)
            refine value_ (v := .int .i64 y) (w1 := w8) (by rfl) rfl (by go_simp) ?_
            refine hK.out _ _ hHeld ?_
            clear hHeld
            intro hHeld
            clear hK K
            refine norm_ (a' := ?_) ?_ ?_
            rotate_left
            · show Act.put _ (some 54) _ = _
              simp only [Act.put, List.setIfInBounds_toArray, List.set_cons_zero, List.set_cons_succ, i64_w, i32_w]
              rfl
            exact norm_ (by simp only [putAll, Act.put, List.setIfInBounds_toArray, List.set_cons_zero, List.set_cons_succ]) (hCont (g2, cap2) _ hHeld)
          · refine value_ (v := .int .i64 y) (w1 := w8) (by rfl) rfl (by go_simp) ?_
            refine hK.out _ _ hHeld ?_
            clear hHeld
            intro hHeld
            clear hK K
            refine norm_ (a' := ?_) ?_ ?_
            rotate_left
            · show Act.put _ (some 54) _ = _
              simp only [Act.put, List.setIfInBounds_toArray, List.set_cons_zero, List.set_cons_succ, i64_w, i32_w]
              rfl
            refine one_ (i := 4) (N := some 49) #[true, true, true, true, true, true, true, true, true, true, false, false] rfl rfl (one_of HT_.out (by kernel_rfl)) (by decide) (fun K hK => ?_)
            refine value_ (v := .int .i64 x) (w1 := w8) (by rfl) rfl (by go_simp) ?_
            refine hK.out _ _ hHeld ?_
            clear hHeld
            intro hHeld
            clear hK K
            refine norm_ (a' := ?_) ?_ ?_
            rotate_left
            · show Act.put _ (some 49) _ = _
              simp only [Act.put, List.setIfInBounds_toArray, List.set_cons_zero, List.set_cons_succ, i64_w, i32_w]
              rfl
            exact norm_ (by simp only [putAll, Act.put, List.setIfInBounds_toArray, List.set_cons_zero, List.set_cons_succ]) (hCont (g2, cap2) _ hHeld)
      rintro ⟨g2, cap2⟩ w40 hHeld
      have y0 := (hHeld.cell (p := ⟨w.heap.size + 1, 0, none⟩) LY.out).trans QY.out.1
      have y1 := (hHeld.cell (p := ⟨w.heap.size + 1, 1, none⟩) LY.out).trans QY.out.2.1
      have y2 := (hHeld.frozen LY.out).trans QY.out.2.2.1
      have y3 := (hHeld.frozen LY.out).trans QY.out.2.2.2
      have HW := Aside0.mk hHeld
      refine norm_ (a' := ?_) ?_ ?_
      rotate_left
      · simp only [putAll, Act.put, List.setIfInBounds_toArray, List.set_cons_zero, List.set_cons_succ]
        rfl
      refine take_ (i := 10) (N := some 55) (v := ?_) (a' := ?_) #[true, true, true, true, true, true, true, true, true, true, true, false] rfl rfl (take_ofW HT_.out HW_.out (by kernel_rfl)) (fun _ _ _ h => h) (Or.inl ⟨by rfl, ?_⟩) hHeld ?_ ?_
      rotate_left
      · rintro w' hS
        go_simp
        with_reducible rfl
      rotate_left
      · simp only [Act.put, List.setIfInBounds_toArray, List.set_cons_zero, List.set_cons_succ, i64_w, i32_w]
        rfl
      refine last_ (i := 11) (N := none) #[true, true, true, true, true, true, true, true, true, true, true, true] rfl rfl (one_of HT_.out (by kernel_rfl)) (by decide) (fun K hK => ?_)
      refine skip_ (w1 := ?_) (by rfl) rfl ?_ ?_
      rotate_left
      · go_simp
        rfl
      refine hK.out _ _ ?_
      clear hK K
      refine done_ (done_of HT_.out (by kernel_rfl)) ?_
      have HYe := blk_put (cs := #[.int .i64 x, .int .i64 0]) (blk_put (blk_below HYr.out HW.out) 0 (.int .i64 x) rfl) 1 (.int .i64 y) rfl
      have y4 := (blk_cell HYe 0).trans rfl
      have y5 := (blk_cell HYe 1).trans rfl
      go_wp2_with fail
      refine bodyPost_ret (v := .agg #[.int .i64 x, .int .i64 y]) (by simp [results, Try.f55, go_sem, y4, y5]) rfl ⟨by have e1 := E1.out; have e2 := E2.out; simp only [HLS.out.1, HLS.out.2, List.getD_eq_getElem?_getD] at e1 e2 ⊢; rw [e1, e2], ?_⟩
      exact below_set (below_set (HWr.out.trans (HW.out.mono HWr.out.size)) (by simp)) (by simp)
end Go.Proofs.Ytkglggggmlnleaa.Print
