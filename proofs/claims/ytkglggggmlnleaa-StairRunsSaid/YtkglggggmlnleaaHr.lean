/- The document's histories: what its function Histories computes, by hand; the error of a staircase that has to be possible. -/
import Derived.Test.YtkglggggmlnleaaLv
import Derived.Test.YtkglggggmlnleaaHs
namespace Go.Proofs.Ytkglggggmlnleaa.Print
open Go.RowKit Go.Proofs.YtkglggggmlnleaaW.PrintWords Go.Proofs.YtkglggggmlnleaaW.PrintLast Go.Proofs.YtkglggggmlnleaaW.PrintMore
set_option linter.unusedVariables false
set_option linter.unusedSimpArgs false
def f21.T11 : Bool × List (List Nat × List Nat) := (true, [([], []), ([], []), ([], []), ([], []), ([2, 3], [2, 3]), ([], []), ([5], [5]), ([4, 6, 4], [4, 6]), ([1, 7, 7], [1, 7]), ([0, 8, 8], [0, 8]), ([9, 9, 0, 1, 2, 3, 4, 5, 6, 7, 8, 9], [0, 9])])
def f21.B11 : List Nat := [0, 0, 0, 0, 12, 0, 32, 124, 254, 511, 1023]
theorem f21.tab11 : rtab .any (opsOf Try.f21 11) = f21.T11 := by kernel_rfl
theorem f21.bits11 : waitsOk f21.T11.2 f21.B11 = true := by kernel_rfl
theorem check_runs {a b : Int} {l : List S43} (h : checkI a b (l.map up) = 0) : ∀ x ∈ l, -1 ≤ x.f0 ∧ x.f0 ≤ a - 1 ∧ x.f1 ≤ 3 := by
  unfold checkI at h
  split at h
  · cases h
  · split at h
    · cases h
    · rename_i h2
      intro x hx
      have : (l.map up).all (runB a) = true := by
        cases e : (l.map up).all (runB a)
        · exact absurd (.inr e) h2
        · rfl
      have := List.all_eq_true.1 this (up x) (List.mem_map_of_mem hx)
      unfold runB up at this
      simp only [Bool.and_eq_true] at this
      exact ⟨of_decide_eq_true this.1.1, of_decide_eq_true this.1.2, of_decide_eq_true this.2⟩
theorem walk_snoc (L : Int) (y : S67) (r : Int) : ∀ (ys : List S67) (bs : List Int) (l : Int), ys.length = bs.length → walkB L l (ys ++ [y]) (bs ++ [r]) = (walkB L l ys bs && (decide (r < 3) && mayB y (aft L l bs) r))
  | [], [], l, _ => by simp [walkB, aft]
  | x :: ys, b :: bs, l, h => by
    simp only [List.cons_append, walkB, aft, walk_snoc L y r ys bs _ (by simpa using h), Bool.and_assoc]
  | [], _ :: _, _, h => by simp at h
  | _ :: _, [], _, h => by simp at h
/-- The document's histories that begin so. -/
def begun (a b : Int) (xs : List S67) (bs : List Int) : List (List Int) :=
  if walkB a b (xs.take bs.length) bs then (hists a (aft a b bs) (xs.drop bs.length)).map fun h => bs ++ h.map (·.1) else []
theorem begun_len (a b : Int) (xs : List S67) (bs : List Int) (h : xs.length ≤ 14) : (begun a b xs bs).length ≤ 4782969 := by
  unfold begun
  split
  · rw [List.length_map]
    exact Nat.le_trans (hists_many a _ _) (Nat.le_trans (Nat.pow_le_pow_right (by omega) (show (xs.drop bs.length).length ≤ 14 by simp; omega)) (by decide))
  · simp
def part1 (a b : Int) (xs : List S67) (bs : List Int) (x : S67) (r : Int) : List (List Int) := if x.f1 = 3 ∨ x.f1 = r then begun a b xs (bs ++ [r]) else []
theorem begun_step (a b : Int) (xs : List S67) (bs : List Int) (x : S67) (hx : xs[bs.length]? = some x) : begun a b xs bs = part1 a b xs bs x 0 ++ (part1 a b xs bs x 1 ++ part1 a b xs bs x 2) := by
  obtain ⟨hj, rfl⟩ := List.getElem?_eq_some_iff.1 hx
  have hw : ∀ r : Int, r < 3 → walkB a b (xs.take (bs ++ [r]).length) (bs ++ [r]) = (walkB a b (xs.take bs.length) bs && mayB xs[bs.length] (aft a b bs) r) := fun r hr => by
    rw [List.length_append, List.length_singleton, List.take_add_one, List.getElem?_eq_getElem hj]
    simp only [Option.toList]
    rw [walk_snoc a _ r _ _ _ (by simp; omega), decide_eq_true hr, Bool.true_and]
  have hp : ∀ r : Int, r < 3 → part1 a b xs bs xs[bs.length] r = if walkB a b (xs.take bs.length) bs = true then (if mayB xs[bs.length] (aft a b bs) r = true then (hists a (nxt a (aft a b bs) r) (xs.drop (bs.length + 1))).map fun h => bs ++ (r :: h.map (·.1)) else []) else [] := fun r hr => by
    unfold part1 begun
    rw [hw r hr, aft_snoc]
    by_cases h1 : walkB a b (xs.take bs.length) bs = true
    · rw [h1, Bool.true_and, if_pos rfl]
      by_cases h2 : mayB xs[bs.length] (aft a b bs) r = true
      · have h3 : xs[bs.length].f1 = 3 ∨ xs[bs.length].f1 = r := by
          unfold mayB at h2
          simp at h2
          exact h2.2
        rw [if_pos h3, if_pos h2, if_pos h2]
        simp
      · rw [if_neg h2, if_neg h2]
        simp
    · rw [Bool.eq_false_iff.2 h1]
      simp
  rw [hp 0 (by omega), hp 1 (by omega), hp 2 (by omega)]
  unfold begun
  by_cases h1 : walkB a b (xs.take bs.length) bs = true
  · rw [if_pos h1, if_pos h1, if_pos h1, if_pos h1, List.drop_eq_getElem_cons hj]
    simp only [hists, List.flatMap_cons, List.flatMap_nil, List.append_nil, List.map_append]
    have : ∀ r : Int, (if mayB xs[bs.length] (aft a b bs) r = true then (hists a (nxt a (aft a b bs) r) (xs.drop (bs.length + 1))).map fun h => (r, aft a b bs) :: h else []).map (fun h => bs ++ h.map (·.1)) =
        if mayB xs[bs.length] (aft a b bs) r = true then (hists a (nxt a (aft a b bs) r) (xs.drop (bs.length + 1))).map fun h => bs ++ (r :: h.map (·.1)) else [] := fun r => by
      split
      · simp [Function.comp_def]
      · rfl
    rw [this, this, this]
  · rw [if_neg h1, if_neg h1, if_neg h1, if_neg h1]; rfl
/-- What has been collected of the first results. -/
def accN (a b : Int) (xs : List S67) (bs : List Int) (x : S67) (n : Nat) : List (List Int) := (List.range n).flatMap fun (r : Nat) => part1 a b xs bs x (r : Int)
theorem accN_succ (a b : Int) (xs : List S67) (bs : List Int) (x : S67) (n : Nat) : accN a b xs bs x (n + 1) = accN a b xs bs x n ++ part1 a b xs bs x (n : Int) := by
  unfold accN; rw [List.range_succ]; simp
theorem accN_3 (a b : Int) (xs : List S67) (bs : List Int) (x : S67) (hx : xs[bs.length]? = some x) : accN a b xs bs x 3 = begun a b xs bs := by
  rw [begun_step a b xs bs x hx, accN_succ, accN_succ, accN_succ]
  simp [accN]
theorem accN_len (a b : Int) (xs : List S67) (bs : List Int) (x : S67) (h : xs.length ≤ 14) : ∀ n, (accN a b xs bs x n).length ≤ n * 4782969
  | 0 => by simp [accN]
  | n + 1 => by
    have := accN_len a b xs bs x h n
    have h2 : (part1 a b xs bs x (n : Int)).length ≤ 4782969 := by
      unfold part1
      split
      · exact begun_len a b _ _ h
      · simp
    rw [accN_succ, List.length_append]
    omega
/-- Rows of rows: their elements are none of another row's cells. -/
theorem rows_apart {α : Type} {d : Kd α} {e : Nat} (he : e ∉ d.E) {w : World} {base base' : Nat} {v t : Value} {xs ys : List α} (HO : d.R e w base (fun _ => True) v xs) (HT : d.R e w base' (fun _ => True) t ys) :
    ∃ A c, t = .slice A ys.length c ∧ ys.length ≤ c ∧ ∃ okp : Nat → Prop, ReadsRow (d.M w base' okp) d.sz w A ys.length ys ∧ ∀ k, okp k → True ∧ some k ≠ v.ownBlock := by
  obtain ⟨A, c, rfl, hl, hr⟩ := OwnRow.reads HT.2
  refine ⟨A, c, rfl, hl, _, hr.imp_ (Below.refl _ _) (fun _ _ hp => d.M_bound hp), fun k hk => ⟨trivial, fun hv => ?_⟩⟩
  obtain ⟨_, _, _, q, hq, cells, hc⟩ := hk
  obtain ⟨inner, ho⟩ := Kd.R_own HO
  obtain ⟨cells2, hc2⟩ := own_typed ho k hv.symm
  rw [hc2] at hc
  injection hc with hc
  injection hc with _ hc
  exact he (hc ▸ hq)
theorem R_int_grown {k : IntKind} {e : Nat} {w w1 : World} {base : Nat} {ok : Nat → Prop} {v : Value} {xs : List Int} {row : Option Nat} (h : Kd.R (Kd.int k) e w base ok v xs) (hg : w.grownBy w1 row) (hne : ∀ q, v.ownBlock = some q → some q ≠ row) : Kd.R (Kd.int k) e w1 base (fun _ => True) v xs :=
  Kd.R_mono (Kd.R_grown (ok := fun q => v.ownBlock = some q) ⟨fun _ hk => hk, h.2.imp_ (fun _ _ hp => hp)⟩ hg hne) (fun _ _ => trivial)
theorem new_apart {α : Type} {d : Kd α} {e : Nat} {w : World} {base : Nat} {ok : Nat → Prop} {v u : Value} {xs : List α} (h : d.R e w base ok v xs) (hat : ∃ b, u.ownBlock = some b ∧ w.heap.size ≤ b) : ∀ q, u.ownBlock = some q → some q ≠ v.ownBlock := fun q hq hv => by
  obtain ⟨b, h1, h2⟩ := hat
  obtain ⟨inner, ho⟩ := Kd.R_own h
  have := own_lt ho q hv.symm
  rw [h1] at hq
  injection hq with hq
  omega
theorem new_apart2 {α : Type} {d : Kd α} {e : Nat} {w : World} {base : Nat} {ok : Nat → Prop} {v u : Value} {xs : List α} (h : d.R e w base ok v xs) (hat : ∃ b, u.ownBlock = some b ∧ w.heap.size ≤ b) : ∀ q, v.ownBlock = some q → some q ≠ u.ownBlock := fun q hq hu =>
  new_apart h hat q hu.symm hq.symm
theorem own_below {B : Nat} {w0 w w1 : World} {v : Value} (h : Below B w0 w) (hg : w.grownBy w1 v.ownBlock) (hB : B ≤ w.heap.size) (hv : ∀ b, v.ownBlock = some b → B ≤ b) : Below B w0 w1 := h.grown hg hB hv
def sl8 : Kd (List Int) := Kd.slice 5 (Kd.int .u8)
set_option maxHeartbeats 8000000 in
set_option maxRecDepth 100000 in
theorem refhist_calls (L st : Int) (A : Option Addr) (c : Nat) (l : List S43) (hck : checkI L st (l.map up) = 0) (hc : l.length ≤ c) : ∀ (d : Nat) (bs : List Int) (v : Value) (base : Nat) (w : World), bs.length + d = l.length → Kd.C k43 w A l.length l → base ≤ w.heap.size → Kd.R (Kd.int .u8) 5 w base (fun _ => True) v bs →
    Calls Try.prog 21 #[.agg #[.int .i64 L, .int .i64 st, .slice A l.length c], v] w fun e w' => ∃ v', e = .returned v' ∧ Kd.R sl8 41 w' base (fun _ => True) v' (begun L st (l.map up) bs) ∧ Below w.heap.size w w' := by
  intro d
  induction d with
  | zero =>
    intro bs v base w hd hr hbase hv
    have hu24 := Try.underlying24
    have k5 := (check_ok hck).2.2.2.2
    simp only [List.length_map] at k5
    obtain ⟨A1, c1, rfl, hc1, hC1⟩ := Kd.R_reads hv
    have HV := Aside0.mk hv
    have HR := Aside0.mk hr
    have HC1 := Aside0.mk hC1
    have HB : Aside0 (Below w.heap.size w (w.alloc (.cells #[.int .i64 L, .int .i64 st, .slice A l.length c] 24))) := ⟨(Below.refl _ w).alloc (by simp) _⟩
    have HX := Aside0.mk (blk_new w (.cells #[.int .i64 L, .int .i64 st, .slice A l.length c] 24))
    have n1 : ((bs.length : Int) == (l.length : Int)) = true := beq_iff_eq.2 (by omega)
    have n3 : (bs.length == l.length) = true := beq_iff_eq.2 (by omega)
    have HD : Aside0 (begun L st (l.map up) bs = if walkB L st (l.map up) bs = true then [bs] else []) := ⟨by
      have hw : (l.map up).take bs.length = l.map up := List.take_of_length_le (by simp; omega)
      have hd : (l.map up).drop bs.length = [] := List.drop_of_length_le (by simp; omega)
      unfold begun
      rw [hw, hd]
      simp [hists]⟩
    have HN := Aside0.mk hd
    have HCK := Aside0.mk hck
    have HBASE := Aside0.mk hbase
    obtain ⟨bw, hbw⟩ : ∃ bw, walkB L st (l.map up) bs = bw := ⟨_, rfl⟩
    have HBW := Aside0.mk hbw
    obtain ⟨k1, k2, k3, k4, _⟩ := check_ok hck
    clear hv hr hC1 hd hck hbase hbw
    go_enter Try.func21, Try.ntmps21
    go_wp2_with fail
    refine (ishist_calls L st A c l A1 c1 bs _ (Kd.C_below HR.out HB.out) hc (Kd.C_below HC1.out HB.out) k2 k3 k4 (by omega) (fun x hx => (check_runs HCK.out x hx).1) bw (by rw [HBW.out, decide_eq_true (by have := HN.out; omega)]; rfl)).mono ?_
    rintro e w2 ⟨rfl, hb2⟩
    have HB2 := Aside0.mk (HB.out.trans (hb2.mono HB.out.size))
    clear hb2
    cases bw with
    | true =>
      go_wp2_with ((with_reducible refine gate_dst (N := 18) rfl ?_); refine Kd.R_lit sl8 (w0 := w) base 41 ?hg (N := 18) ?hd (xs := [bs]) (inner := [.slice A1 bs.length c1]) (ok := fun _ => True) (okp := fun _ => True) ?hr ?hp (fun _ hk => hk) trivial (HB2.out.mono HBASE.out) (Nat.le_trans HBASE.out HB2.out.size) (by simp) ?_; (case hd => rfl); (case hg => rfl); (case hr => first | (go_simp; done) | (go_simp; rfl)); (case hp => exact (Reps.one (show sl8.M _ _ _ bs [.slice A1 bs.length c1] from ⟨_, rfl, Kd.R_below HV.out HB2.out⟩) (Reps.none _ _))); intro v3 w3 hR3 hb3 hg3 hat3; have HR3 := Aside0.mk hR3; have HB3 := Aside0.mk (HB2.out.grown hg3 HB2.out.size (fun k hk => by cases hk)); clear hR3 hb3 hg3 hat3)
      go_ret
      exact ⟨_, rfl, by rw [HD.out, HBW.out]; exact HR3.out, HB3.out⟩
    | false =>
      go_wp2_with fail
      go_ret
      exact ⟨_, rfl, by rw [HD.out, HBW.out]; exact Kd.R_nil _ _ _ _ _, HB2.out⟩
  | succ d ih =>
    intro bs v base w hd hr hbase hv
    have hu24 := Try.underlying24
    have hu43 := Try.underlying43
    have k5 := (check_ok hck).2.2.2.2
    simp only [List.length_map] at k5
    obtain ⟨A1, c1, rfl, hc1, hC1⟩ := Kd.R_reads hv
    have hj : bs.length < l.length := by omega
    have HXX : Aside0 ((l.map up)[bs.length]? = some (up l[bs.length])) := ⟨by simp [hj]⟩
    obtain ⟨ad, rfl, g0, g1⟩ := cell43 hr bs.length hj
    have G1 := Aside0.mk (And.intro (World.block_lt_of_cell? _ _ g1) g1)
    have HV := Aside0.mk hv
    have HR := Aside0.mk hr
    have HC1 := Aside0.mk hC1
    have HB : Aside0 (Below w.heap.size w (w.alloc (.cells #[.int .i64 L, .int .i64 st, .slice (some ad) l.length c] 24))) := ⟨(Below.refl _ w).alloc (by simp) _⟩
    have HX := Aside0.mk (blk_new w (.cells #[.int .i64 L, .int .i64 st, .slice (some ad) l.length c] 24))
    have n1 : ((bs.length : Int) == (l.length : Int)) = false := beq_eq_false_iff_ne.2 (by omega)
    have n3 : (bs.length == l.length) = false := beq_eq_false_iff_ne.2 (by omega)
    have hj7 : (bs.length : Int) < (l.length : Int) := by omega
    have HN := Aside0.mk hd
    have HCK := Aside0.mk hck
    have HBASE := Aside0.mk hbase
    have IH := Aside0.mk ih
    obtain ⟨xx, hxx⟩ : ∃ xx, up l[bs.length] = xx := ⟨_, rfl⟩
    have hx1 : l[bs.length].f1 = xx.f1 := by rw [← hxx]; rfl
    rw [hxx] at HXX
    rw [hx1] at G1
    clear hv hr hC1 hd hck hbase ih g0 g1 hxx hx1
    go_enter Try.func21, Try.ntmps21
    go_wp2_with fail
    go_loopw [5, 6] (fun o r wr => ∃ rn : Nat, rn ≤ 3 ∧ r = .int .u8 rn ∧ Aside0 (Kd.R sl8 41 wr base (fun _ => True) o (accN L st (l.map up) bs xx rn)) ∧ Aside0 (∀ b, o.ownBlock = some b → w.heap.size ≤ b) ∧ Aside0 (wr.heap[w.heap.size]? = some (.cells #[.int .i64 L, .int .i64 st, .slice (some ad) l.length c] 24 (0, 0))) ∧ Aside0 (Below w.heap.size w wr)) (fun _ r _ => 3 - (intOf r).toNat)
    case atStart => exact ⟨0, by omega, rfl, ⟨by unfold accN; exact Kd.R_nil _ _ _ _ _⟩, ⟨fun b hb => by cases hb⟩, HX, HB⟩
    case round =>
      obtain ⟨rn, hrn, rfl, ho, how, hbx, hbw⟩ := hrel
      have q0 : wr.cell? ⟨w.heap.size, 0, none⟩ = some (.int .i64 L) := (blk_cell hbx.out 0).trans rfl
      have q1 : wr.cell? ⟨w.heap.size, 1, none⟩ = some (.int .i64 st) := (blk_cell hbx.out 1).trans rfl
      have q2 : wr.cell? ⟨w.heap.size, 2, none⟩ = some (.slice (some ad) l.length c) := (blk_cell hbx.out 2).trans rfl
      have g1 : wr.cell? ⟨(ad.add (bs.length * 2)).block, (ad.add (bs.length * 2)).off + 1, none⟩ = some (.int .u8 xx.f1) := (hbw.out.cell (p := ⟨(ad.add (bs.length * 2)).block, (ad.add (bs.length * 2)).off + 1, none⟩) G1.out.1).trans G1.out.2
      by_cases hr3 : rn < 3
      · have hr6 : decide ((rn : Int) < 3) = true := decide_eq_true (by omega)
        have HAC := Aside0.mk (accN_succ L st (l.map up) bs xx rn)
        have hskip : ¬ (xx.f1 = 3 ∨ xx.f1 = (rn : Int)) → part1 L st (l.map up) bs xx rn = [] := fun h => by unfold part1; rw [if_neg h]
        by_cases hp : xx.f1 = 3 ∨ xx.f1 = (rn : Int)
        · have HP : Aside0 (part1 L st (l.map up) bs xx rn = begun L st (l.map up) (bs ++ [(rn : Int)])) := ⟨by unfold part1; rw [if_pos hp]⟩
          have HQ := Aside0.mk (And.intro q0 (And.intro q1 q2))
          have HLT := Aside0.mk (blk_lt hbx.out)
          have hy : (xx.f1 == 3) = true ∨ ((xx.f1 == 3) = false ∧ (xx.f1 == (rn : Int)) = true) := by
            by_cases e : xx.f1 = 3
            · exact .inl (beq_iff_eq.2 e)
            · exact .inr ⟨beq_eq_false_iff_ne.2 e, beq_iff_eq.2 (hp.resolve_left e)⟩
          have HAL := Aside0.mk (accN_len L st (l.map up) bs xx (by simpa using k5) rn)
          have HBL := Aside0.mk (begun_len L st (l.map up) (bs ++ [(rn : Int)]) (by simpa using k5))
          clear hskip hp
          rcases hy with hy | ⟨hy, hy2⟩
          all_goals
            go_wp2_with fail
            refine start_ (n := 11) (S := (Below wr.heap.size wr)) (ds := [9, 10]) #[false, false, false, false, false, false, false, false, false, false, false] (by kernel_rfl) rfl rfl ((Below.refl _ _).drew) (fun hHeld => ?_)
            refine with_tabW f21.tab11 f21.bits11 (fun HT_ HW_ => ?_)
            refine take_ (i := 0) (N := some 37) (v := ?_) (a' := ?_) #[true, false, false, false, false, false, false, false, false, false, false] rfl rfl (take_ofW HT_.out HW_.out (by kernel_rfl)) (fun _ _ _ h => h) (Or.inl ⟨by rfl, ?_⟩) hHeld ?_ ?_
            rotate_left
            · rintro w' hS
              have s0 := (hS.cell (p := ⟨w.heap.size, 0, none⟩) HLT.out).trans HQ.out.1
              have s1 := (hS.cell (p := ⟨w.heap.size, 1, none⟩) HLT.out).trans HQ.out.2.1
              have s2 := (hS.cell (p := ⟨w.heap.size, 2, none⟩) HLT.out).trans HQ.out.2.2
              clear hS
              go_simp
              with_reducible rfl
            rotate_left
            · simp only [Act.put, List.setIfInBounds_toArray, List.set_cons_zero, List.set_cons_succ, i64_w, i32_w]
              rfl
            refine take_ (i := 1) (N := some 38) (v := ?_) (a' := ?_) #[true, true, false, false, false, false, false, false, false, false, false] rfl rfl (take_ofW HT_.out HW_.out (by kernel_rfl)) (fun _ _ _ h => h) (Or.inl ⟨by rfl, ?_⟩) hHeld ?_ ?_
            rotate_left
            · rintro w' hS
              have s0 := (hS.cell (p := ⟨w.heap.size, 0, none⟩) HLT.out).trans HQ.out.1
              have s1 := (hS.cell (p := ⟨w.heap.size, 1, none⟩) HLT.out).trans HQ.out.2.1
              have s2 := (hS.cell (p := ⟨w.heap.size, 2, none⟩) HLT.out).trans HQ.out.2.2
              clear hS
              go_simp
              with_reducible rfl
            rotate_left
            · simp only [Act.put, List.setIfInBounds_toArray, List.set_cons_zero, List.set_cons_succ, i64_w, i32_w]
              rfl
            refine take_ (i := 3) (N := some 40) (v := ?_) (a' := ?_) #[true, true, false, true, false, false, false, false, false, false, false] rfl rfl (take_ofW HT_.out HW_.out (by kernel_rfl)) (fun _ _ _ h => h) (Or.inl ⟨by rfl, ?_⟩) hHeld ?_ ?_
            rotate_left
            · rintro w' hS
              have s0 := (hS.cell (p := ⟨w.heap.size, 0, none⟩) HLT.out).trans HQ.out.1
              have s1 := (hS.cell (p := ⟨w.heap.size, 1, none⟩) HLT.out).trans HQ.out.2.1
              have s2 := (hS.cell (p := ⟨w.heap.size, 2, none⟩) HLT.out).trans HQ.out.2.2
              clear hS
              go_simp
              with_reducible rfl
            rotate_left
            · simp only [Act.put, List.setIfInBounds_toArray, List.set_cons_zero, List.set_cons_succ, i64_w, i32_w]
              rfl
            refine take_ (i := 5) (N := some 42) (v := ?_) (a' := ?_) #[true, true, false, true, false, true, false, false, false, false, false] rfl rfl (take_ofW HT_.out HW_.out (by kernel_rfl)) (fun _ _ _ h => h) (Or.inl ⟨by rfl, ?_⟩) hHeld ?_ ?_
            rotate_left
            · rintro w' hS
              have s0 := (hS.cell (p := ⟨w.heap.size, 0, none⟩) HLT.out).trans HQ.out.1
              have s1 := (hS.cell (p := ⟨w.heap.size, 1, none⟩) HLT.out).trans HQ.out.2.1
              have s2 := (hS.cell (p := ⟨w.heap.size, 2, none⟩) HLT.out).trans HQ.out.2.2
              clear hS
              go_simp
              with_reducible rfl
            rotate_left
            · simp only [Act.put, List.setIfInBounds_toArray, List.set_cons_zero, List.set_cons_succ, i64_w, i32_w]
              rfl
            refine join_ (σ := Value × Value × Value) 4 #[true, true, true, true, true, true, true, false, false, false, false] (fun s_ => [(39, s_.1), (41, s_.2.1), (43, s_.2.2)]) (fun s_ w' => Below wr.heap.size wr w' ∧ Kd.R (Kd.int .u8) 5 w' wr.heap.size (fun _ => True) s_.2.1 bs ∧ Kd.R (Kd.int .u8) 5 w' wr.heap.size (fun _ => True) s_.2.2 [(rn : Int)] ∧ True) ?_ ?_
            rotate_left
            · intro hCont
              refine two_ (i := 2) (j := 6) (Ni := some 39) (Nj := some 43) #[true, true, true, true, false, true, false, false, false, false, false] #[true, true, false, true, false, true, true, false, false, false, false] rfl rfl rfl rfl (two_of HT_.out (by kernel_rfl)) (by decide) (by decide) (fun K hK => ?_) (fun K hK => ?_)
              · refine Kd.R_lit_step (Kd.int .u8) (w0 := wr) wr.heap.size 5 ?hg (N := 39) ?hd (xs := ([] : List Int)) (inner := []) (ok := fun _ => True) (okp := fun _ => True) ?hr ?hp (fun _ hk => hk) trivial hHeld hHeld.size (by simp) ?_; (case hd => rfl); (case hg => rfl); (case hr => first | (go_simp; done) | (go_simp; rfl)); (case hp => exact (Reps.none _ _))
                intro v39 w39 hR hb hg hat
                have HV39 := Aside0.mk hR
                refine hK.out _ _ hb ?_
                clear hHeld hR hb hg hat
                intro hHeld
                clear hK K
                refine norm_ (a' := ?_) ?_ ?_
                rotate_left
                · show Act.put _ (some 39) _ = _
                  simp only [Act.put, List.setIfInBounds_toArray, List.set_cons_zero, List.set_cons_succ, i64_w, i32_w]
                  rfl
                refine two_ (i := 4) (j := 6) (Ni := some 41) (Nj := some 43) #[true, true, true, true, true, true, false, false, false, false, false] #[true, true, true, true, false, true, true, false, false, false, false] rfl rfl rfl rfl (two_of HT_.out (by kernel_rfl)) (by decide) (by decide) (fun K hK => ?_) (fun K hK => ?_)
                · have hC1r := Kd.C_below HC1.out (hbw.out.trans (hHeld.mono hbw.out.size))
                  refine Kd.R_append_rows_step (Kd.int .u8) (w0 := wr) wr.heap.size (by rfl) (.tmp 39) (.tmp 40) 41 5 (.int .u8 0) 1 rfl Try.underlying41 info5 rfl (by decide) (by omega) v39 [] bs _ _ _ (fun _ => True) (fun _ => False) rfl rfl HV39.out hC1r (fun _ _ h => h) (fun _ h => h.elim) (fun _ _ => trivial) hHeld hHeld.size (by simp; omega) ?_
                  intro v41 w41 hR hb hg hat
                  have HV41 := Aside0.mk hR
                  refine hK.out _ _ hb ?_
                  clear hHeld hR hb hg hat hC1r
                  intro hHeld
                  clear hK K
                  refine norm_ (a' := ?_) ?_ ?_
                  rotate_left
                  · show Act.put _ (some 41) _ = _
                    simp only [Act.put, List.setIfInBounds_toArray, List.set_cons_zero, List.set_cons_succ, i64_w, i32_w]
                    rfl
                  refine one_ (i := 6) (N := some 43) #[true, true, true, true, true, true, true, false, false, false, false] rfl rfl (one_of HT_.out (by kernel_rfl)) (by decide) (fun K hK => ?_)
                  refine Kd.R_lit_step (Kd.int .u8) (w0 := wr) wr.heap.size 5 ?hg (N := 43) ?hd (xs := ([(rn : Int)] : List Int)) (inner := [.int .u8 (rn : Int)]) (ok := fun _ => True) (okp := fun _ => True) ?hr ?hp (fun _ hk => hk) trivial hHeld hHeld.size (by simp) ?_; (case hd => rfl); (case hg => rfl); (case hr => first | (go_simp; done) | (go_simp; rfl)); (case hp => exact (Reps.one (show Kd.M (Kd.int .u8) _ _ _ (rn : Int) [.int .u8 (rn : Int)] from rfl) (Reps.none _ _)))
                  intro v43 w43 hR hb hg hat
                  have HV43 := Aside0.mk hR
                  replace HV41 := Aside0.mk (R_int_grown HV41.out hg (fun _ _ => by simp))
                  refine hK.out _ _ hb ?_
                  clear hHeld hR hb hg hat
                  intro hHeld
                  clear hK K
                  refine norm_ (a' := ?_) ?_ ?_
                  rotate_left
                  · show Act.put _ (some 43) _ = _
                    simp only [Act.put, List.setIfInBounds_toArray, List.set_cons_zero, List.set_cons_succ, i64_w, i32_w]
                    rfl
                  exact norm_ (by simp only [putAll, Act.put, List.setIfInBounds_toArray, List.set_cons_zero, List.set_cons_succ]) (hCont (v39, v41, v43) _ ⟨hHeld, HV41.out, HV43.out, trivial⟩)
                · refine Kd.R_lit_step (Kd.int .u8) (w0 := wr) wr.heap.size 5 ?hg (N := 43) ?hd (xs := ([(rn : Int)] : List Int)) (inner := [.int .u8 (rn : Int)]) (ok := fun _ => True) (okp := fun _ => True) ?hr ?hp (fun _ hk => hk) trivial hHeld hHeld.size (by simp) ?_; (case hd => rfl); (case hg => rfl); (case hr => first | (go_simp; done) | (go_simp; rfl)); (case hp => exact (Reps.one (show Kd.M (Kd.int .u8) _ _ _ (rn : Int) [.int .u8 (rn : Int)] from rfl) (Reps.none _ _)))
                  intro v43 w43 hR hb hg hat
                  have HV43 := Aside0.mk hR
                  have HD43 := Aside0.mk (new_apart HV39.out hat)
                  replace HV39 := Aside0.mk (R_int_grown HV39.out hg (fun _ _ => by simp))
                  refine hK.out _ _ hb ?_
                  clear hHeld hR hb hg hat
                  intro hHeld
                  clear hK K
                  refine norm_ (a' := ?_) ?_ ?_
                  rotate_left
                  · show Act.put _ (some 43) _ = _
                    simp only [Act.put, List.setIfInBounds_toArray, List.set_cons_zero, List.set_cons_succ, i64_w, i32_w]
                    rfl
                  refine one_ (i := 4) (N := some 41) #[true, true, true, true, true, true, true, false, false, false, false] rfl rfl (one_of HT_.out (by kernel_rfl)) (by decide) (fun K hK => ?_)
                  have hC1r := Kd.C_below HC1.out (hbw.out.trans (hHeld.mono hbw.out.size))
                  refine Kd.R_append_rows_step (Kd.int .u8) (w0 := wr) wr.heap.size (by rfl) (.tmp 39) (.tmp 40) 41 5 (.int .u8 0) 1 rfl Try.underlying41 info5 rfl (by decide) (by omega) v39 [] bs _ _ _ (fun _ => True) (fun _ => False) rfl rfl HV39.out hC1r (fun _ _ h => h) (fun _ h => h.elim) (fun _ _ => trivial) hHeld hHeld.size (by simp; omega) ?_
                  intro v41 w41 hR hb hg hat
                  have HV41 := Aside0.mk hR
                  replace HV43 := Aside0.mk (R_int_grown HV43.out hg HD43.out)
                  refine hK.out _ _ hb ?_
                  clear hHeld hR hb hg hat hC1r
                  intro hHeld
                  clear hK K
                  refine norm_ (a' := ?_) ?_ ?_
                  rotate_left
                  · show Act.put _ (some 41) _ = _
                    simp only [Act.put, List.setIfInBounds_toArray, List.set_cons_zero, List.set_cons_succ, i64_w, i32_w]
                    rfl
                  exact norm_ (by simp only [putAll, Act.put, List.setIfInBounds_toArray, List.set_cons_zero, List.set_cons_succ]) (hCont (v39, v41, v43) _ ⟨hHeld, HV41.out, HV43.out, trivial⟩)
              · refine Kd.R_lit_step (Kd.int .u8) (w0 := wr) wr.heap.size 5 ?hg (N := 43) ?hd (xs := ([(rn : Int)] : List Int)) (inner := [.int .u8 (rn : Int)]) (ok := fun _ => True) (okp := fun _ => True) ?hr ?hp (fun _ hk => hk) trivial hHeld hHeld.size (by simp) ?_; (case hd => rfl); (case hg => rfl); (case hr => first | (go_simp; done) | (go_simp; rfl)); (case hp => exact (Reps.one (show Kd.M (Kd.int .u8) _ _ _ (rn : Int) [.int .u8 (rn : Int)] from rfl) (Reps.none _ _)))
                intro v43 w43 hR hb hg hat
                have HV43 := Aside0.mk hR
                refine hK.out _ _ hb ?_
                clear hHeld hR hb hg hat
                intro hHeld
                clear hK K
                refine norm_ (a' := ?_) ?_ ?_
                rotate_left
                · show Act.put _ (some 43) _ = _
                  simp only [Act.put, List.setIfInBounds_toArray, List.set_cons_zero, List.set_cons_succ, i64_w, i32_w]
                  rfl
                refine one_ (i := 2) (N := some 39) #[true, true, true, true, false, true, true, false, false, false, false] rfl rfl (one_of HT_.out (by kernel_rfl)) (by decide) (fun K hK => ?_)
                refine Kd.R_lit_step (Kd.int .u8) (w0 := wr) wr.heap.size 5 ?hg (N := 39) ?hd (xs := ([] : List Int)) (inner := []) (ok := fun _ => True) (okp := fun _ => True) ?hr ?hp (fun _ hk => hk) trivial hHeld hHeld.size (by simp) ?_; (case hd => rfl); (case hg => rfl); (case hr => first | (go_simp; done) | (go_simp; rfl)); (case hp => exact (Reps.none _ _))
                intro v39 w39 hR hb hg hat
                have HV39 := Aside0.mk hR
                have HD43 := Aside0.mk (new_apart2 HV43.out hat)
                replace HV43 := Aside0.mk (R_int_grown HV43.out hg (fun _ _ => by simp))
                refine hK.out _ _ hb ?_
                clear hHeld hR hb hg hat
                intro hHeld
                clear hK K
                refine norm_ (a' := ?_) ?_ ?_
                rotate_left
                · show Act.put _ (some 39) _ = _
                  simp only [Act.put, List.setIfInBounds_toArray, List.set_cons_zero, List.set_cons_succ, i64_w, i32_w]
                  rfl
                refine one_ (i := 4) (N := some 41) #[true, true, true, true, true, true, true, false, false, false, false] rfl rfl (one_of HT_.out (by kernel_rfl)) (by decide) (fun K hK => ?_)
                have hC1r := Kd.C_below HC1.out (hbw.out.trans (hHeld.mono hbw.out.size))
                refine Kd.R_append_rows_step (Kd.int .u8) (w0 := wr) wr.heap.size (by rfl) (.tmp 39) (.tmp 40) 41 5 (.int .u8 0) 1 rfl Try.underlying41 info5 rfl (by decide) (by omega) v39 [] bs _ _ _ (fun _ => True) (fun _ => False) rfl rfl HV39.out hC1r (fun _ _ h => h) (fun _ h => h.elim) (fun _ _ => trivial) hHeld hHeld.size (by simp; omega) ?_
                intro v41 w41 hR hb hg hat
                have HV41 := Aside0.mk hR
                replace HV43 := Aside0.mk (R_int_grown HV43.out hg HD43.out)
                refine hK.out _ _ hb ?_
                clear hHeld hR hb hg hat hC1r
                intro hHeld
                clear hK K
                refine norm_ (a' := ?_) ?_ ?_
                rotate_left
                · show Act.put _ (some 41) _ = _
                  simp only [Act.put, List.setIfInBounds_toArray, List.set_cons_zero, List.set_cons_succ, i64_w, i32_w]
                  rfl
                exact norm_ (by simp only [putAll, Act.put, List.setIfInBounds_toArray, List.set_cons_zero, List.set_cons_succ]) (hCont (v39, v41, v43) _ ⟨hHeld, HV41.out, HV43.out, trivial⟩)
            rintro ⟨v39, v41, v43⟩ w30 ⟨hHeld, hg1, hg2, _⟩
            have HV41 := Aside0.mk hg1
            have HV43 := Aside0.mk hg2
            clear hg1 hg2
            refine norm_ (a' := ?_) ?_ ?_
            rotate_left
            · simp only [putAll, Act.put, List.setIfInBounds_toArray, List.set_cons_zero, List.set_cons_succ]
              rfl
            refine one_ (i := 7) (N := some 44) #[true, true, true, true, true, true, true, true, false, false, false] rfl rfl (one_of HT_.out (by kernel_rfl)) (by decide) (fun K hK => ?_)
            obtain ⟨A43, c43, rfl, hl43, hC43⟩ := Kd.R_reads HV43.out
            refine Kd.R_append_rows_step (Kd.int .u8) (w0 := wr) wr.heap.size (by rfl) (.tmp 41) (.tmp 43) 41 5 (.int .u8 0) 1 rfl Try.underlying41 info5 rfl (by decide) (by omega) v41 bs [(rn : Int)] _ _ _ (fun _ => True) (fun _ => False) rfl rfl HV41.out hC43 (fun _ _ h => h) (fun _ h => h.elim) (fun _ _ => trivial) hHeld hHeld.size (by simp; omega) ?_
            intro v44 w44 hR hb hg hat
            have HV44 := Aside0.mk hR
            refine hK.out _ _ hb ?_
            clear hHeld hR hb hg hat hC43 hl43
            intro hHeld
            clear hK K
            refine norm_ (a' := ?_) ?_ ?_
            rotate_left
            · show Act.put _ (some 44) _ = _
              simp only [Act.put, List.setIfInBounds_toArray, List.set_cons_zero, List.set_cons_succ, i64_w, i32_w]
              rfl
            refine one_ (i := 8) (N := some 45) #[true, true, true, true, true, true, true, true, true, false, false] rfl rfl (one_of HT_.out (by kernel_rfl)) (by decide) (fun K hK => ?_)
            refine goes_ Try.func21 (by kernel_rfl) rfl #[.agg #[.int .i64 L, .int .i64 st, .slice (some ad) l.length c], v44] (by rfl) rfl rfl (by (try simp only [List.map_toArray, List.map_cons, List.map_nil]); first | done | rfl) ?_
            refine (IH.out (bs ++ [(rn : Int)]) v44 base _ (by have := HN.out; simp; omega) (Kd.C_below HR.out (hbw.out.trans (hHeld.mono hbw.out.size))) (Nat.le_trans (Nat.le_trans HBASE.out hbw.out.size) hHeld.size) (Kd.R_lower HV44.out (Nat.le_trans HBASE.out hbw.out.size))).mono ?_
            rintro e w45 ⟨v45, rfl, hR45, hb45⟩
            have HV45 := Aside0.mk hR45
            refine ⟨_, rfl, hK.out _ _ (hHeld.trans (hb45.mono hHeld.size)) ?_⟩
            clear hHeld hR45 hb45
            intro hHeld
            clear hK K
            refine norm_ (a' := ?_) ?_ ?_
            rotate_left
            · show Act.put _ (some 45) _ = _
              simp only [Act.put, List.setIfInBounds_toArray, List.set_cons_zero, List.set_cons_succ, i64_w, i32_w]
              rfl
            refine last_ (i := 9) (N := some 46) #[true, true, true, true, true, true, true, true, true, true, false] rfl rfl (one_of HT_.out (by kernel_rfl)) (by decide) (fun K hK => ?_)
            obtain ⟨A45, c45, rfl, hl45, okp, hrr, hap⟩ := rows_apart (d := sl8) (e := 41) (by decide) (Kd.R_below ho.out hHeld) HV45.out
            refine Kd.R_append_rows_step sl8 (w0 := wr) base (by rfl) (.tmp 37) (.tmp 45) 37 41 (.slice none 0 0) 24 rfl Try.underlying37 info41 rfl (by decide) (by omega) _ (accN L st (l.map up) bs xx rn) (begun L st (l.map up) (bs ++ [(rn : Int)])) _ _ _ (fun _ => True) okp rfl rfl (Kd.R_below ho.out hHeld) hrr (fun _ _ h => h) hap (fun _ _ => trivial) (hHeld.mono (Nat.le_trans HBASE.out hbw.out.size)) (Nat.le_trans (Nat.le_trans HBASE.out hbw.out.size) hHeld.size) (by have := HAL.out; have := HBL.out; have : rn * 4782969 ≤ 3 * 4782969 := Nat.mul_le_mul_right _ (by omega); omega) ?_
            intro v46 w46 hR hb hg hat
            have HO9 := Aside0.mk hR
            have HB9 : Aside0 (Below w.heap.size wr w46) := ⟨own_below (hHeld.mono hbw.out.size) hg (Nat.le_trans hbw.out.size hHeld.size) how.out⟩
            have HX9 := Aside0.mk (blk_grown (blk_below hbx.out hHeld) hg (Kd.R_ne (Kd.R_below ho.out hHeld) (blk_below hbx.out hHeld) (by decide)))
            have HW9 : Aside0 (∀ b, v46.ownBlock = some b → w.heap.size ≤ b) := ⟨fun b hb => by
              rcases hat with hat | ⟨b', hat, hlt⟩
              · exact how.out b (hat ▸ hb)
              · rw [hat] at hb; injection hb with hb; exact hb ▸ Nat.le_trans (Nat.le_trans hbw.out.size hHeld.size) hlt⟩
            refine hK.out _ _ ?_
            clear hK K
            refine norm_ (a' := ?_) ?_ ?_
            rotate_left
            · show Act.put _ (some 46) _ = _
              simp only [Act.put, List.setIfInBounds_toArray, List.set_cons_zero, List.set_cons_succ, i64_w, i32_w]
              rfl
            refine last_ (i := 10) (N := some 5) #[true, true, true, true, true, true, true, true, true, true, true] rfl rfl (one_of HT_.out (by kernel_rfl)) (by decide) (fun K hK => ?_)
            refine value_ (v := v46) (w1 := w46) (by rfl) rfl (by go_simp) ?_
            refine hK.out _ _ ?_
            clear hK K
            refine norm_ (a' := ?_) ?_ ?_
            rotate_left
            · show Act.put _ (some 5) _ = _
              simp only [Act.put, List.setIfInBounds_toArray, List.set_cons_zero, List.set_cons_succ, i64_w, i32_w]
              rfl
            refine done_ (done_of HT_.out (by kernel_rfl)) ?_
            go_wp2_with fail
            go_roundw
            case rel => exact ⟨rn + 1, by omega, by push_cast; first | rfl | go_num, ⟨by rw [HAC.out, HP.out]; exact HO9.out⟩, HW9, HX9, ⟨hbw.out.trans HB9.out⟩⟩
            case measure => simp [intOf]; omega
        · have e1 : (xx.f1 == 3) = false := beq_eq_false_iff_ne.2 (fun h => hp (.inl h))
          have e2 : (xx.f1 == (rn : Int)) = false := beq_eq_false_iff_ne.2 (fun h => hp (.inr h))
          have HP := Aside0.mk (hskip hp)
          clear hskip hp
          go_wp2_with fail
          go_roundw
          case rel => exact ⟨rn + 1, by omega, by push_cast; first | rfl | go_num, ⟨by rw [HAC.out, HP.out, List.append_nil]; exact ho.out⟩, how, hbx, hbw⟩
          case measure => simp [intOf]; omega
      · have hr6 : decide ((rn : Int) < 3) = false := decide_eq_false (by omega)
        obtain rfl : rn = 3 := by omega
        have HA3 := Aside0.mk (accN_3 L st (l.map up) bs xx HXX.out)
        go_wp2_with fail
        go_ret
        exact ⟨_, rfl, by rw [← HA3.out]; exact ho.out, hbw.out⟩
/-- The results of all histories. -/
def refH (L st : Int) (l : List S43) : List (List Int) := (hists L st (l.map up)).map fun h => h.map (·.1)
theorem refH_eq (L st : Int) (l : List S43) : begun L st (l.map up) [] = refH L st l := by simp [begun, refH, walkB, aft]
theorem refH_len (L st : Int) (l : List S43) (h : l.length ≤ 14) : (refH L st l).length ≤ 4782969 := by
  rw [← refH_eq]; exact begun_len _ _ _ _ (by simpa using h)
theorem allhist_calls (L st : Int) (A : Option Addr) (c : Nat) (l : List S43) (w : World) (hck : checkI L st (l.map up) = 0) (hr : Kd.C k43 w A l.length l) (hc : l.length ≤ c) :
    Calls Try.prog 21 #[.agg #[.int .i64 L, .int .i64 st, .slice A l.length c], .slice none 0 0] w fun e w' => ∃ v', e = .returned v' ∧ Kd.R sl8 41 w' w.heap.size (fun _ => True) v' (refH L st l) ∧ Below w.heap.size w w' := by
  rw [← refH_eq]
  exact refhist_calls L st A c l hck hc l.length [] _ w.heap.size w (by simp) hr (Nat.le_refl _) (Kd.R_nil _ _ _ _ _)
set_option maxHeartbeats 2000000 in
set_option maxRecDepth 100000 in
theorem law_asked_calls (L st : Int) (A : Option Addr) (c : Nat) (l : List S43) (w : World) (hr : Kd.C k43 w A l.length l) (hc : l.length ≤ c) (hm : l.length ≤ 9000000000000000000) :
    Calls Try.prog 20 #[.agg #[.int .i64 L, .int .i64 st, .slice A l.length c]] w fun e w' => e = .returned (.int .i64 (possI L st (l.map up))) ∧ Below w.heap.size w w' := by
  have hu24 := Try.underlying24
  have HR := Aside0.mk hr
  have HB : Aside0 (Below w.heap.size w (w.alloc (.cells #[.int .i64 L, .int .i64 st, .slice A l.length c] 24))) := ⟨(Below.refl _ w).alloc (by simp) _⟩
  have HX := Aside0.mk (blk_new w (.cells #[.int .i64 L, .int .i64 st, .slice A l.length c] 24))
  clear hr
  go_enter Try.func20, Try.ntmps20
  go_wp2_with fail
  refine (fault_calls L st A c l _ (Kd.C_below HR.out HB.out) hc hm).mono ?_
  rintro e w2 ⟨rfl, hb2⟩
  have HB2 := Aside0.mk (HB.out.trans (hb2.mono HB.out.size))
  have HX2 := Aside0.mk (blk_below HX.out hb2)
  have q0 : w2.cell? ⟨w.heap.size, 0, none⟩ = some (.int .i64 L) := (blk_cell HX2.out 0).trans rfl
  have q1 : w2.cell? ⟨w.heap.size, 1, none⟩ = some (.int .i64 st) := (blk_cell HX2.out 1).trans rfl
  have q2 : w2.cell? ⟨w.heap.size, 2, none⟩ = some (.slice A l.length c) := (blk_cell HX2.out 2).trans rfl
  clear hb2
  obtain ⟨ck, hck⟩ : ∃ ck, checkI L st (l.map up) = ck := ⟨_, rfl⟩
  rw [hck]
  have HCK := Aside0.mk hck
  clear hck
  by_cases h0 : ck = 0
  · subst h0
    go_wp2_with fail
    refine (allhist_calls L st A c l _ HCK.out (Kd.C_below HR.out HB2.out) hc).mono ?_
    rintro e w3 ⟨v3, rfl, hR3, hb3⟩
    obtain ⟨A3, c3, rfl, hc3, hC3⟩ := Kd.R_reads hR3
    have HB3 := Aside0.mk (HB2.out.trans (hb3.mono HB2.out.size))
    have hlen : (refH L st l).length = (hists L st (l.map up)).length := by simp [refH]
    obtain ⟨n, hn⟩ : ∃ n, (refH L st l).length = n := ⟨_, rfl⟩
    rw [hn]
    rw [hn] at hlen
    by_cases hz : n = 0
    · subst hz
      have HP : Aside0 (possI L st (l.map up) = 9) := ⟨by unfold possI; rw [if_pos HCK.out, if_pos (List.eq_nil_of_length_eq_zero hlen.symm)]⟩
      clear hb3 hR3 hC3 hc3 hlen hn
      go_wp2_with fail
      go_ret
      exact ⟨by rw [HP.out]; rfl, HB3.out⟩
    · have HP : Aside0 (possI L st (l.map up) = 0) := ⟨by unfold possI; rw [if_pos HCK.out, if_neg (fun e => hz (by rw [hlen, e]; rfl))]⟩
      have hz2 : ((n : Int) == 0) = false := beq_eq_false_iff_ne.2 (by omega)
      have hz3 : (n == 0) = false := beq_eq_false_iff_ne.2 hz
      clear hb3 hR3 hC3 hc3 hlen hn
      go_wp2_with fail
      go_ret
      exact ⟨by rw [HP.out]; rfl, HB3.out⟩
  · have h0b : (ck == 0) = false := beq_eq_false_iff_ne.2 h0
    have h0c : (ck != 0) = true := bne_iff_ne.2 h0
    have HP : Aside0 (possI L st (l.map up) = ck) := ⟨by unfold possI; rw [if_neg (by rw [HCK.out]; exact h0), HCK.out]⟩
    go_wp2_with fail
    go_ret
    exact ⟨by rw [HP.out]; rfl, HB2.out⟩
end Go.Proofs.Ytkglggggmlnleaa.Print
