/- What a truth is, and sorted numbers, as the document says it. What a truth is, as the document says it. -/
import Derived.Test.YtkglggggmlnleaaHm
import Derived.Test.YtkglggggmlnleaaLv
namespace Go.Proofs.Ytkglggggmlnleaa.Print
open Go.RowKit Go.Proofs.YtkglggggmlnleaaW.PrintWords Go.Proofs.YtkglggggmlnleaaW.PrintLast Go.Proofs.YtkglggggmlnleaaW.PrintMore
set_option linter.unusedVariables false
set_option linter.unusedSimpArgs false
def f30.T8 : Bool × List (List Nat × List Nat) := (true, [([], []), ([], []), ([], []), ([], []), ([3], [3]), ([], []), ([], []), ([6], [6]), ([5, 7], [5, 7]), ([8], [8]), ([], []), ([], []), ([10, 11], [10, 11]), ([12], [12]), ([0, 1, 0, 1, 5, 6, 7, 8, 9, 13], [0, 1]), ([14, 9, 0, 1, 5, 6, 7, 8, 9, 13], [9, 14]), ([2, 4, 0, 1, 2, 3, 4, 5, 6, 7, 8, 9, 10, 11, 12, 13, 14, 15], [2, 4]), ([16, 13, 15, 0, 1, 2, 3, 4, 5, 6, 7, 8, 9, 10, 11, 12, 13, 14, 15], [13, 16])])
def f30.B8 : List Nat := [0, 0, 0, 0, 8, 0, 0, 64, 224, 480, 0, 0, 3072, 7168, 16355, 32739, 65535, 131071]
theorem f30.tab8 : rtab .any (opsOf Try.f30 8) = f30.T8 := by kernel_rfl
theorem f30.bits8 : waitsOk f30.T8.2 f30.B8 = true := by kernel_rfl
/-! ### Sorting by insertion, as a loop does it: rp: what stands before x, backwards -/
def sinkF : List Int → Int → List Int → List Int
  | [], x, s => x :: s
  | y :: rp, x, s => if x < y then sinkF rp x (y :: s) else (y :: rp).reverse ++ x :: s
/-- From place k on. -/
def insF : Nat → List Int → List Int → List Int
  | 0, a, _ => a
  | n + 1, a, [] => a
  | n + 1, a, x :: s => insF n (sinkF a.reverse x []) s
theorem sinkF_perm : ∀ (rp : List Int) (x : Int) (s : List Int), (sinkF rp x s).Perm (rp.reverse ++ x :: s)
  | [], x, s => by simp [sinkF]
  | y :: rp, x, s => by
    unfold sinkF
    split
    · refine (sinkF_perm rp x (y :: s)).trans ?_
      simp only [List.reverse_cons, List.append_assoc, List.singleton_append]
      exact (List.Perm.swap y x s).append_left _
    · exact List.Perm.refl _
theorem sinkF_tail : ∀ (rp : List Int) (x : Int) (s t : List Int), sinkF rp x (s ++ t) = sinkF rp x s ++ t
  | [], x, s, t => rfl
  | y :: rp, x, s, t => by
    unfold sinkF
    split
    · rw [← List.cons_append]; exact sinkF_tail rp x (y :: s) t
    · simp
theorem sinkF_sorted : ∀ (rp : List Int) (x : Int) (s : List Int), (rp.reverse ++ s).Pairwise (· ≤ ·) → (∀ z ∈ s, x ≤ z) → (sinkF rp x s).Pairwise (· ≤ ·)
  | [], x, s, h, hx => by
    unfold sinkF
    exact List.pairwise_cons.2 ⟨hx, by simpa using h⟩
  | y :: rp, x, s, h, hx => by
    unfold sinkF
    have h2 : (rp.reverse ++ y :: s).Pairwise (· ≤ ·) := by simpa using h
    split
    · rename_i hlt
      refine sinkF_sorted rp x (y :: s) h2 ?_
      intro z hz
      rcases List.mem_cons.1 hz with rfl | hz
      · omega
      · exact hx z hz
    · rename_i hlt
      rw [List.pairwise_append] at h ⊢
      refine ⟨h.1, List.pairwise_cons.2 ⟨hx, h.2.1⟩, ?_⟩
      intro a ha b hb
      rcases List.mem_cons.1 hb with rfl | hb
      · have : a ≤ y := by
          rw [List.pairwise_append] at h2
          rcases List.mem_cons.1 (List.mem_reverse.1 ha) with rfl | ha
          · omega
          · exact h2.2.2 a (List.mem_reverse.2 ha) y (by simp)
        omega
      · exact h.2.2 a ha b hb
theorem insF_spec : ∀ (n : Nat) (a s : List Int), a.Pairwise (· ≤ ·) → s.length ≤ n → (insF n a s).Pairwise (· ≤ ·) ∧ (insF n a s).Perm (a ++ s)
  | 0, a, s, h, hn => by
    obtain rfl : s = [] := List.eq_nil_of_length_eq_zero (by omega)
    simp [insF, h]
  | n + 1, a, [], h, hn => by simp [insF, h]
  | n + 1, a, x :: s, h, hn => by
    have h1 := sinkF_sorted a.reverse x [] (by simpa using h) (by simp)
    have h2 := sinkF_perm a.reverse x []
    rw [List.reverse_reverse] at h2
    obtain ⟨h3, h4⟩ := insF_spec n (sinkF a.reverse x []) s h1 (by simpa using hn)
    refine ⟨h3, h4.trans ?_⟩
    have := h2.append_right s
    simpa using this
theorem insF_rising (l : List Int) : insF l.length [] l = rising l := by
  obtain ⟨h1, h2⟩ := insF_spec l.length [] l (by simp) (Nat.le_refl _)
  exact sorted_eq h1 (rs_sorted l) (h2.trans (rs_perm l).symm)

theorem swap_list (rp t : List Int) (x y : Int) : ((rp.reverse ++ y :: x :: t).set (rp.length + 1) y).set rp.length x = rp.reverse ++ x :: y :: t := by
  have e1 : (rp.reverse ++ y :: x :: t).set (rp.length + 1) y = rp.reverse ++ y :: y :: t := by
    rw [List.set_append_right _ _ (by simp)]
    simp
  rw [e1, List.set_append_right _ _ (by simp)]
  simp
theorem get_mid (rp t : List Int) (x : Int) : rdOf 0 (rp.reverse ++ x :: t) (rp.length : Int) = x := by
  unfold rdOf
  rw [Int.toNat_natCast, List.getD_eq_getElem?_getD, List.getElem?_append_right (by simp)]
  simp
set_option maxHeartbeats 4000000 in
set_option maxRecDepth 100000 in
theorem refsorted_calls (A : Option Addr) (c : Nat) (xs : List Int) (w : World) (hr : Kd.C (Kd.int .i64) w A xs.length xs) (hn : xs.length ≤ 1000) :
    Calls Try.prog 30 #[.slice A xs.length c] w fun e w' => ∃ v, e = .returned v ∧ Kd.R (Kd.int .i64) 3 w' w.heap.size (fun _ => True) v (rising xs) ∧ Below w.heap.size w w' := by
  have HR := Aside0.mk hr
  clear hr
  go_enter Try.func30, Try.ntmps30
  go_wp2_with (first | ((with_reducible refine gate_dst (N := 6) rfl ?_); refine Kd.R_lit (Kd.int .i64) (w0 := w) w.heap.size 3 ?hg (N := 6) ?hd (xs := []) (inner := []) (ok := fun _ => True) (okp := fun _ => True) ?hr ?hp (fun _ hk => hk) trivial (Below.refl _ _) (Nat.le_refl _) (by simp) ?_; (case hd => rfl); (case hg => rfl); (case hr => first | (go_simp; done) | (go_simp; rfl)); (case hp => exact (Reps.none _ _)); intro v5 w5 hR hb hg hat; have HV5 := Aside0.mk hR; have HB5 := Aside0.mk hb; clear hR hb hg hat) | ((with_reducible refine gate_builtin (b := .append) (xs := #[.tmp 6, .tmp 7]) rfl ?_); at_builtin; refine Kd.R_append_rows (Kd.int .i64) (w0 := w) w.heap.size rfl (.tmp 6) (.tmp 7) 48 3 (.int .i64 0) 8 rfl Try.underlying48 info3 rfl (by decide) (by omega) v5 [] xs _ _ _ (fun _ => True) (fun _ => False) rfl rfl HV5.out (Kd.C_below HR.out HB5.out) (fun _ _ h => h) (fun _ h => h.elim) (fun _ _ => trivial) HB5.out HB5.out.size (by simp; omega) ?_; intro v6 w6 hR hb hg hat; rw [List.nil_append] at hR; have HV6 := Aside0.mk hR; have HB6 := Aside0.mk hb; clear hR hb hg hat))
  by_cases hx : xs.length = 0
  · have hnil : xs = [] := List.eq_nil_of_length_eq_zero hx
    obtain ⟨A6, c6, rfl⟩ := Kd.R_slice HV6.out
    have HRI : Aside0 (rising xs = xs) := ⟨by rw [hnil]; simp [rising]⟩
    have HX := Aside0.mk hx
    obtain ⟨n0, hn0⟩ : ∃ n0, xs.length = n0 := ⟨_, rfl⟩
    rw [hn0] at hx ⊢
    clear hnil hn0
    subst hx
    go_loopw [4] (fun i wr => i = .int .i64 0 ∧ wr = w6) (fun i _ => 0)
    case atStart => exact ⟨rfl, rfl⟩
    case round =>
      obtain ⟨rfl, rfl⟩ := hrel
      go_wp2_with fail
      go_ret
      exact ⟨_, rfl, by rw [HRI.out]; have := HV6.out; rw [HX.out] at this; exact this, HB6.out⟩
  · obtain ⟨g, cap, rfl, hg6, hg7, _⟩ := Kd.R_form HV6.out (by omega)
    have HG := Aside0.mk hg6
    clear hg6 hg7
    obtain ⟨n, hn0⟩ : ∃ n, xs.length = n := ⟨_, rfl⟩
    have HINS := Aside0.mk (insF_rising xs)
    rw [hn0] at HV6 HINS hn hx ⊢
    have HN0 := Aside0.mk hn0
    clear hn0
    go_loopw [4] (fun i wr => ∃ jn : Nat, jn ≤ n ∧ i = .int .i64 jn ∧ Aside0 (∃ a s : List Int, a.length = jn ∧ jn + s.length = n ∧ Kd.R (Kd.int .i64) 3 wr w.heap.size (fun _ => True) (.slice (some ⟨g, 0, none⟩) n cap) (a ++ s) ∧ insF s.length a s = rising xs) ∧ Aside0 (Below w.heap.size w wr)) (fun i _ => n - (intOf i).toNat)
    case atStart => exact ⟨0, by omega, rfl, ⟨[], xs, rfl, by have := HN0.out; omega, HV6.out, by rw [HN0.out]; exact HINS.out⟩, HB6⟩
    case round =>
      obtain ⟨jn, hj, rfl, hex, hbw⟩ := hrel
      by_cases hj3 : jn < n
      · have hj6 : decide ((jn : Int) < (n : Int)) = true := decide_eq_true (by omega)
        obtain ⟨a, s, ha, hs, hR, hI⟩ := hex.out
        obtain ⟨x0, s', rfl⟩ : ∃ x0 s', s = x0 :: s' := by
          cases s with
          | nil => simp at hs; omega
          | cons x0 s' => exact ⟨x0, s', rfl⟩
        have HA := Aside0.mk ha
        have HS : Aside0 (jn + (s'.length + 1) = n) := ⟨by simpa using hs⟩
        have HI : Aside0 (insF s'.length (sinkF a.reverse x0 []) s' = rising xs) := ⟨hI⟩
        have HRr := Aside0.mk hR
        have HT : Aside0 (sinkF a.reverse x0 s' = sinkF a.reverse x0 [] ++ s') := ⟨sinkF_tail a.reverse x0 [] s'⟩
        have HLEN : Aside0 ((sinkF a.reverse x0 []).length = jn + 1) := ⟨by rw [(sinkF_perm a.reverse x0 []).length_eq]; simp [ha]⟩
        clear hex ha hs hI hR
        obtain ⟨wo, hwo⟩ : ∃ wo : World, wo = wr := ⟨_, rfl⟩
        rw [← hwo] at hbw HRr ⊢
        clear hwo
        go_wp2_with fail
        go_loopw [5] (fun k wr => ∃ kn : Nat, k = .int .i64 kn ∧ Aside0 (∃ (rp : List Int) (x : Int) (t : List Int), rp.length = kn ∧ kn + t.length + 1 = n ∧ Kd.R (Kd.int .i64) 3 wr w.heap.size (fun _ => True) (.slice (some ⟨g, 0, none⟩) n cap) (rp.reverse ++ x :: t) ∧ sinkF rp x t = sinkF a.reverse x0 s') ∧ Aside0 (Below w.heap.size w wr)) (fun k _ => (intOf k).toNat)
        case atStart => exact ⟨jn, rfl, ⟨a.reverse, x0, s', by rw [List.length_reverse, HA.out], by have := HS.out; omega, by rw [List.reverse_reverse]; exact HRr.out, rfl⟩, hbw⟩
        case round =>
          obtain ⟨kn, rfl, hex, hbw2⟩ := hrel
          obtain ⟨rp, x, t, hrp, htl, hR, hT⟩ := hex.out
          have hkn : (kn : Int) < n := by omega
          have HTT := Aside0.mk hT
          have HR2 := Aside0.mk hR
          have hx1 := Kd.R_celln (0 : Int) hR (kn : Int) (by omega) (by omega)
          rw [show (kn : Int) = (rp.length : Int) by omega, get_mid, Int.toNat_natCast, hrp] at hx1
          have p1 := hx1.1
          have p2 := hx1.2
          cases rp with
          | nil =>
            obtain rfl : kn = 0 := by simpa using hrp.symm
            have HQ : Aside0 (x :: t = sinkF a.reverse x0 [] ++ s') := ⟨by rw [← HT.out, ← hT]; rfl⟩
            clear hex hrp htl hR hT hx1
            go_wp2_with fail
            go_quiet (fail)
            go_wp2_with fail
            go_roundw
            case rel => exact ⟨jn + 1, by omega, by go_num, ⟨sinkF a.reverse x0 [], s', HLEN.out, by have := HS.out; omega, by rw [← HQ.out]; exact Kd.R_drewN HR2.out _, HI.out⟩, ⟨pw_below_drewN hbw2.out _⟩⟩
            case measure => simp [intOf]; omega
          | cons y rp =>
            obtain ⟨m, rfl⟩ : ∃ m, kn = m + 1 := ⟨rp.length, by simpa using hrp.symm⟩
            have hm : rp.length = m := by simpa using hrp
            have hlist : (y :: rp).reverse ++ x :: t = rp.reverse ++ y :: x :: t := by simp
            rw [hlist] at hR HR2
            have hx2 := Kd.R_celln (0 : Int) hR (m : Int) (by omega) (by omega)
            rw [show (m : Int) = (rp.length : Int) by omega, get_mid, Int.toNat_natCast, hm] at hx2
            have p3 := hx2.1
            have p4 := hx2.2
            have HM := Aside0.mk hm
            have hpos : decide ((0 : Int) < (m : Int) + 1) = true := decide_eq_true (by omega)
            have hm7 : (m : Int) < n := by omega
            have hm8 : (m : Int) + 1 < n := by omega
            have HTL := Aside0.mk htl
            by_cases hxy : x < y
            · have d1 : decide (x < y) = true := decide_eq_true hxy
              have HQ : Aside0 (sinkF rp x (y :: t) = sinkF a.reverse x0 s') := ⟨by rw [← hT]; show _ = if x < y then _ else _; rw [if_pos hxy]⟩
              clear hex hrp htl hR hT hx1 hx2 hm hlist hxy
              go_wp2_with fail
              go_quiet (fail)
              go_wp2_with fail
              have ew : wrap64 (m : Int) = (m : Int) := by unfold wrap64; omega
              have ez : (0 : Int) ≤ (m : Int) + 1 := by omega
              refine start_ (n := 18) (S := (fun _ => True)) (ds := []) #[false, false, false, false, false, false, false, false, false, false, false, false, false, false, false, false, false, false] (by kernel_rfl) rfl rfl (trivial) (fun hHeld => ?_)
              refine with_tabW f30.tab8 f30.bits8 (fun HT_ HW_ => ?_)
              refine take_ (i := 0) (N := some 32) (v := ?_) (a' := ?_) #[true, false, false, false, false, false, false, false, false, false, false, false, false, false, false, false, false, false] rfl rfl (take_ofW HT_.out HW_.out (by kernel_rfl)) (fun _ _ _ h => h) (Or.inl ⟨by rfl, ?_⟩) hHeld ?_ ?_
              rotate_left
              · rintro w' hS
                go_simp
                with_reducible rfl
              rotate_left
              · simp only [Act.put, List.setIfInBounds_toArray, List.set_cons_zero, List.set_cons_succ, i64_w, i32_w]
                rfl
              refine take_ (i := 1) (N := some 33) (v := ?_) (a' := ?_) #[true, true, false, false, false, false, false, false, false, false, false, false, false, false, false, false, false, false] rfl rfl (take_ofW HT_.out HW_.out (by kernel_rfl)) (fun _ _ _ h => h) (Or.inl ⟨by rfl, ?_⟩) hHeld ?_ ?_
              rotate_left
              · rintro w' hS
                go_simp
                with_reducible rfl
              rotate_left
              · simp only [Act.put, List.setIfInBounds_toArray, List.set_cons_zero, List.set_cons_succ, i64_w, i32_w]
                rfl
              refine take_ (i := 2) (N := some 34) (v := ?_) (a' := ?_) #[true, true, true, false, false, false, false, false, false, false, false, false, false, false, false, false, false, false] rfl rfl (take_ofW HT_.out HW_.out (by kernel_rfl)) (fun _ _ _ h => h) (Or.inl ⟨by rfl, ?_⟩) hHeld ?_ ?_
              rotate_left
              · rintro w' hS
                go_simp
                with_reducible rfl
              rotate_left
              · simp only [Act.put, List.setIfInBounds_toArray, List.set_cons_zero, List.set_cons_succ, i64_w, i32_w]
                rfl
              refine take_ (i := 3) (N := some 35) (v := ?_) (a' := ?_) #[true, true, true, true, false, false, false, false, false, false, false, false, false, false, false, false, false, false] rfl rfl (take_ofW HT_.out HW_.out (by kernel_rfl)) (fun _ _ _ h => h) (Or.inl ⟨by rfl, ?_⟩) hHeld ?_ ?_
              rotate_left
              · rintro w' hS
                go_simp
                with_reducible rfl
              rotate_left
              · simp only [Act.put, List.setIfInBounds_toArray, List.set_cons_zero, List.set_cons_succ, i64_w, i32_w]
                rfl
              refine take_ (i := 4) (N := some 36) (v := ?_) (a' := ?_) #[true, true, true, true, true, false, false, false, false, false, false, false, false, false, false, false, false, false] rfl rfl (take_ofW HT_.out HW_.out (by kernel_rfl)) (fun _ _ _ h => h) (Or.inl ⟨by rfl, ?_⟩) hHeld ?_ ?_
              rotate_left
              · rintro w' hS
                go_simp
                with_reducible rfl
              rotate_left
              · simp only [Act.put, List.setIfInBounds_toArray, List.set_cons_zero, List.set_cons_succ, i64_w, i32_w]
                rfl
              refine take_ (i := 5) (N := some 37) (v := ?_) (a' := ?_) #[true, true, true, true, true, true, false, false, false, false, false, false, false, false, false, false, false, false] rfl rfl (take_ofW HT_.out HW_.out (by kernel_rfl)) (fun _ _ _ h => h) (Or.inl ⟨by rfl, ?_⟩) hHeld ?_ ?_
              rotate_left
              · rintro w' hS
                go_simp
                with_reducible rfl
              rotate_left
              · simp only [Act.put, List.setIfInBounds_toArray, List.set_cons_zero, List.set_cons_succ, i64_w, i32_w]
                rfl
              refine take_ (i := 6) (N := some 38) (v := ?_) (a' := ?_) #[true, true, true, true, true, true, true, false, false, false, false, false, false, false, false, false, false, false] rfl rfl (take_ofW HT_.out HW_.out (by kernel_rfl)) (fun _ _ _ h => h) (Or.inl ⟨by rfl, ?_⟩) hHeld ?_ ?_
              rotate_left
              · rintro w' hS
                go_simp
                with_reducible rfl
              rotate_left
              · simp only [Act.put, List.setIfInBounds_toArray, List.set_cons_zero, List.set_cons_succ, i64_w, i32_w]
                rfl
              refine take_ (i := 7) (N := some 39) (v := ?_) (a' := ?_) #[true, true, true, true, true, true, true, true, false, false, false, false, false, false, false, false, false, false] rfl rfl (take_ofW HT_.out HW_.out (by kernel_rfl)) (fun _ _ _ h => h) (Or.inl ⟨by rfl, ?_⟩) hHeld ?_ ?_
              rotate_left
              · rintro w' hS
                go_simp
                with_reducible rfl
              rotate_left
              · simp only [Act.put, List.setIfInBounds_toArray, List.set_cons_zero, List.set_cons_succ, i64_w, i32_w]
                rfl
              refine take_ (i := 8) (N := some 40) (v := ?_) (a' := ?_) #[true, true, true, true, true, true, true, true, true, false, false, false, false, false, false, false, false, false] rfl rfl (take_ofW HT_.out HW_.out (by kernel_rfl)) (fun _ _ _ h => h) (Or.inl ⟨by rfl, ?_⟩) hHeld ?_ ?_
              rotate_left
              · rintro w' hS
                go_simp
                with_reducible rfl
              rotate_left
              · simp only [Act.put, List.setIfInBounds_toArray, List.set_cons_zero, List.set_cons_succ, i64_w, i32_w]
                rfl
              refine take_ (i := 10) (N := some 42) (v := ?_) (a' := ?_) #[true, true, true, true, true, true, true, true, true, false, true, false, false, false, false, false, false, false] rfl rfl (take_ofW HT_.out HW_.out (by kernel_rfl)) (fun _ _ _ h => h) (Or.inl ⟨by rfl, ?_⟩) hHeld ?_ ?_
              rotate_left
              · rintro w' hS
                go_simp
                with_reducible rfl
              rotate_left
              · simp only [Act.put, List.setIfInBounds_toArray, List.set_cons_zero, List.set_cons_succ, i64_w, i32_w]
                rfl
              refine take_ (i := 11) (N := some 43) (v := ?_) (a' := ?_) #[true, true, true, true, true, true, true, true, true, false, true, true, false, false, false, false, false, false] rfl rfl (take_ofW HT_.out HW_.out (by kernel_rfl)) (fun _ _ _ h => h) (Or.inl ⟨by rfl, ?_⟩) hHeld ?_ ?_
              rotate_left
              · rintro w' hS
                go_simp
                with_reducible rfl
              rotate_left
              · simp only [Act.put, List.setIfInBounds_toArray, List.set_cons_zero, List.set_cons_succ, i64_w, i32_w]
                rfl
              refine take_ (i := 12) (N := some 44) (v := ?_) (a' := ?_) #[true, true, true, true, true, true, true, true, true, false, true, true, true, false, false, false, false, false] rfl rfl (take_ofW HT_.out HW_.out (by kernel_rfl)) (fun _ _ _ h => h) (Or.inl ⟨by rfl, ?_⟩) hHeld ?_ ?_
              rotate_left
              · rintro w' hS
                go_simp
                with_reducible rfl
              rotate_left
              · simp only [Act.put, List.setIfInBounds_toArray, List.set_cons_zero, List.set_cons_succ, i64_w, i32_w]
                rfl
              refine join_ (σ := Unit) 4 #[true, true, true, true, true, true, true, true, true, true, true, true, true, true, false, false, false, false] (fun s_ => [(41, .int .i64 y), (45, .int .i64 x)]) (fun s_ w' => w' = wr.drewN (nq + 1)) ?_ ?_
              rotate_left
              · intro hCont
                refine two_ (i := 9) (j := 13) (Ni := some 41) (Nj := some 45) #[true, true, true, true, true, true, true, true, true, true, true, true, true, false, false, false, false, false] #[true, true, true, true, true, true, true, true, true, false, true, true, true, true, false, false, false, false] rfl rfl rfl rfl (two_of HT_.out (by kernel_rfl)) (by decide) (by decide) (fun K hK => ?_) (fun K hK => ?_)
                · refine value_ (v := .int .i64 y) (w1 := wr.drewN (nq + 1)) (by rfl) rfl (by go_simp) ?_
                  refine hK.out _ _ trivial ?_
                  intro hHeld
                  clear hK K
                  refine norm_ (a' := ?_) ?_ ?_
                  rotate_left
                  · show Act.put _ (some 41) _ = _
                    simp only [Act.put, List.setIfInBounds_toArray, List.set_cons_zero, List.set_cons_succ, i64_w, i32_w]
                    rfl
                  refine one_ (i := 13) (N := some 45) #[true, true, true, true, true, true, true, true, true, true, true, true, true, true, false, false, false, false] rfl rfl (one_of HT_.out (by kernel_rfl)) (by decide) (fun K hK => ?_)
                  refine value_ (v := .int .i64 x) (w1 := wr.drewN (nq + 1)) (by rfl) rfl (by go_simp) ?_
                  refine hK.out _ _ trivial ?_
                  intro hHeld
                  clear hK K
                  refine norm_ (a' := ?_) ?_ ?_
                  rotate_left
                  · show Act.put _ (some 45) _ = _
                    simp only [Act.put, List.setIfInBounds_toArray, List.set_cons_zero, List.set_cons_succ, i64_w, i32_w]
                    rfl
                  exact norm_ (by simp only [putAll, Act.put, List.setIfInBounds_toArray, List.set_cons_zero, List.set_cons_succ]) (hCont () _ rfl)
                · refine value_ (v := .int .i64 x) (w1 := wr.drewN (nq + 1)) (by rfl) rfl (by go_simp) ?_
                  refine hK.out _ _ trivial ?_
                  intro hHeld
                  clear hK K
                  refine norm_ (a' := ?_) ?_ ?_
                  rotate_left
                  · show Act.put _ (some 45) _ = _
                    simp only [Act.put, List.setIfInBounds_toArray, List.set_cons_zero, List.set_cons_succ, i64_w, i32_w]
                    rfl
                  refine one_ (i := 9) (N := some 41) #[true, true, true, true, true, true, true, true, true, true, true, true, true, true, false, false, false, false] rfl rfl (one_of HT_.out (by kernel_rfl)) (by decide) (fun K hK => ?_)
                  refine value_ (v := .int .i64 y) (w1 := wr.drewN (nq + 1)) (by rfl) rfl (by go_simp) ?_
                  refine hK.out _ _ trivial ?_
                  intro hHeld
                  clear hK K
                  refine norm_ (a' := ?_) ?_ ?_
                  rotate_left
                  · show Act.put _ (some 41) _ = _
                    simp only [Act.put, List.setIfInBounds_toArray, List.set_cons_zero, List.set_cons_succ, i64_w, i32_w]
                    rfl
                  exact norm_ (by simp only [putAll, Act.put, List.setIfInBounds_toArray, List.set_cons_zero, List.set_cons_succ]) (hCont () _ rfl)
              rintro ⟨⟩ w30 rfl
              have hHeld : True := trivial
              refine norm_ (a' := ?_) ?_ ?_
              rotate_left
              · simp only [putAll, Act.put, List.setIfInBounds_toArray, List.set_cons_zero, List.set_cons_succ]
                rfl
              refine take_ (i := 14) (N := some 46) (v := ?_) (a' := ?_) #[true, true, true, true, true, true, true, true, true, true, true, true, true, true, true, false, false, false] rfl rfl (take_ofW HT_.out HW_.out (by kernel_rfl)) (fun _ _ _ h => h) (Or.inl ⟨by rfl, ?_⟩) hHeld ?_ ?_
              rotate_left
              · rintro w' hS
                go_simp
                with_reducible rfl
              rotate_left
              · simp only [Act.put, List.setIfInBounds_toArray, List.set_cons_zero, List.set_cons_succ, i64_w, i32_w]
                rfl
              refine one_ (i := 15) (N := none) #[true, true, true, true, true, true, true, true, true, true, true, true, true, true, true, true, false, false] rfl rfl (one_of HT_.out (by kernel_rfl)) (by decide) (fun K hK => ?_)
              refine skip_ (w1 := ?_) (by rfl) rfl ?_ ?_
              rotate_left
              · go_simp
                rfl
              refine hK.out _ _ trivial ?_
              intro hHeld
              clear hK K
              refine take_ (i := 16) (N := some 47) (v := ?_) (a' := ?_) #[true, true, true, true, true, true, true, true, true, true, true, true, true, true, true, true, true, false] rfl rfl (take_ofW HT_.out HW_.out (by kernel_rfl)) (fun _ _ _ h => h) (Or.inl ⟨by rfl, ?_⟩) hHeld ?_ ?_
              rotate_left
              · rintro w' hS
                go_simp
                with_reducible rfl
              rotate_left
              · simp only [Act.put, List.setIfInBounds_toArray, List.set_cons_zero, List.set_cons_succ, i64_w, i32_w]
                rfl
              refine one_ (i := 17) (N := none) #[true, true, true, true, true, true, true, true, true, true, true, true, true, true, true, true, true, true] rfl rfl (one_of HT_.out (by kernel_rfl)) (by decide) (fun K hK => ?_)
              refine skip_ (w1 := ?_) (by rfl) rfl ?_ ?_
              rotate_left
              · go_simp
                rfl
              refine hK.out _ _ trivial ?_
              intro hHeld
              clear hK K
              refine done_ (done_of HT_.out (by kernel_rfl)) ?_
              clear ew ez
              go_wp2_with fail
              go_roundw
              case rel =>
                have h1 := Kd.R_putn (Kd.R_putn (Kd.R_drew (Kd.R_drewN HR2.out nq)) ((m + 1 : Nat) : Int) y) (m : Int) x
                rw [Int.toNat_natCast, Int.toNat_natCast] at h1
                have h2 : ((rp.reverse ++ y :: x :: t).set (m + 1) y).set m x = rp.reverse ++ x :: y :: t := by rw [← HM.out]; exact swap_list rp t x y
                rw [h2] at h1
                refine ⟨m, by first | rfl | go_num, ⟨rp, x, y :: t, HM.out, by have := HTL.out; simp only [List.length_cons]; omega, h1, HQ.out⟩, ⟨below_set (below_set (pw_below_drewN hbw2.out _).drew HG.out) HG.out⟩⟩
              case measure => simp [intOf]; try omega
            · have d1 : decide (x < y) = false := decide_eq_false hxy
              have HQ : Aside0 (rp.reverse ++ y :: x :: t = sinkF a.reverse x0 [] ++ s') := ⟨by rw [← HT.out, ← hT]; show _ = if x < y then _ else _; rw [if_neg hxy]; simp⟩
              clear hex hrp htl hR hT hx1 hx2 hm hlist hxy
              go_wp2_with fail
              go_quiet (fail)
              go_wp2_with fail
              go_roundw
              case rel => exact ⟨jn + 1, by omega, by go_num, ⟨sinkF a.reverse x0 [], s', HLEN.out, by have := HS.out; omega, by rw [← HQ.out]; exact Kd.R_drewN HR2.out _, HI.out⟩, ⟨pw_below_drewN hbw2.out _⟩⟩
              case measure => simp [intOf]; omega
      · have hj6 : decide ((jn : Int) < (n : Int)) = false := decide_eq_false (by omega)
        obtain ⟨a, s, ha, hs, hR, hI⟩ := hex.out
        obtain rfl : s = [] := List.eq_nil_of_length_eq_zero (by omega)
        have HRr := Aside0.mk hR
        have HI : Aside0 (a = rising xs) := ⟨hI⟩
        clear hex ha hs hR hI
        go_wp2_with fail
        go_ret
        exact ⟨_, rfl, by rw [← HI.out]; have := HRr.out; rw [List.append_nil] at this; exact this, hbw.out⟩
end Go.Proofs.Ytkglggggmlnleaa.Print
namespace Go.Proofs.Ytkglggggmlnleaa.Print
open Go.RowKit Go.Proofs.YtkglggggmlnleaaW.PrintWords Go.Proofs.YtkglggggmlnleaaW.PrintLast Go.Proofs.YtkglggggmlnleaaW.PrintMore
set_option linter.unusedVariables false
set_option linter.unusedSimpArgs false

theorem histOf_get (L : Int) : ∀ (rs : List Int) (l : Int) (j : Nat) (hj : j < rs.length), (histOf L l rs)[j]? = some (rs[j], aft L l (rs.take j))
  | [], l, j, h => by simp at h
  | r :: rs, l, 0, h => by simp [histOf, aft]
  | r :: rs, l, j + 1, h => by
    simp only [histOf, List.getElem?_cons_succ, List.take_succ_cons, aft, List.getElem_cons_succ]
    exact histOf_get L rs _ j (by simpa using h)
end Go.Proofs.Ytkglggggmlnleaa.Print
