/- The law of staircases that are turned round, walked by hand. -/
import Derived.Test.YtkglggggmlnleaaM4
import Derived.Test.YtkglggggmlnleaaPq
namespace Go.Proofs.Ytkglggggmlnleaa.Print
open Go.RowKit Go.Proofs.YtkglggggmlnleaaW.PrintWords Go.Proofs.YtkglggggmlnleaaW.PrintLast Go.Proofs.YtkglggggmlnleaaW.PrintMore
set_option linter.unusedVariables false
set_option linter.unusedSimpArgs false
theorem len69 (A : Option Addr) (n c : Nat) (hn : n ≤ 1000) : ∀ W : World, (Builtin.len_ #[69] 3 #[.slice A n c]).run Try.prog W = .ok (.int .i64 (n : Int)) W := fun W => by
  have h1 : Try.prog.elem 69 = 28 := by simp [Program.elem, Try.underlying69]
  have h2 : IntKind.i64.wrap (n : Int) = n := IntWalk.i64_in _ (by omega)
  rw [run_len_slice W 69 3 A n c (by rw [h1]; exact Try.underlying69)]
  simp [goInt, h2]

theorem info43t : (Try.prog.info? 43).map (fun i => (i.zero, i.size, i.bytes)) = some (some (.agg #[(.int .i64 0), (.int .u8 0)]), 2, 16) := by kernel_rfl
def turn43 (L : Int) (x : S43) : S43 := ⟨if 0 ≤ x.f0 then L - 1 - x.f0 else x.f0, turnR x.f1⟩
theorem turn43_up (L : Int) (l : List S43) : (l.map (turn43 L)).map up = (l.map up).map (turnS L) := by
  rw [List.map_map, List.map_map]
  exact List.map_congr_left fun x _ => rfl
theorem runOk {L st : Int} {l : List S43} (h : checkI L st (l.map up) = 0) (hu : ∀ x ∈ l, 0 ≤ x.f1) : ∀ x ∈ l, -1 ≤ x.f0 ∧ x.f0 ≤ L - 1 ∧ 0 ≤ x.f1 ∧ x.f1 ≤ 3 := by
  intro x hx
  have h1 := List.all_eq_true.1 (check_all h) (up x) (List.mem_map_of_mem hx)
  have h2 := hu x hx
  unfold runB up at h1
  simp only [Bool.and_eq_true, decide_eq_true_eq] at h1
  omega
theorem count_n (L st : Int) (A : Option Addr) (c : Nat) (l : List S67) (w : World) (n : Nat) (hn : l.length = n) (hr : Kd.C k67 w A n l) (hc : n ≤ c) :
    Calls Try.prog 24 #[.agg #[.int .i64 L, .int .i64 st, .slice A n c]] w fun e w' => e = .returned (.tuple #[.int .i64 (manyI L st l), .int .i64 (possI L st l)]) ∧ Below w.heap.size w w' := by
  subst hn; exact count_calls L st A c l w hr hc
theorem rankc_n (L st : Int) (A : Option Addr) (c : Nat) (l : List S67) (k : Int) (w : World) (n : Nat) (hn : l.length = n) (hr : Kd.C k67 w A n l) (hc : n ≤ c) :
    Calls Try.prog 25 #[.agg #[.int .i64 L, .int .i64 st, .slice A n c], .int .i64 k] w fun e w' => e = .returned (.tuple #[.agg #[.int .i64 (rankR L st l k).1, .int .i64 (rankR L st l k).2], .int .i64 (askE L st l k)]) ∧ Below w.heap.size w w' := by
  subst hn; exact rank_calls L st A c l k w hr hc
/-- What Runs told of both. -/
theorem turn_key {L st : Int} {xs zs : List S67} {n : Nat} {w : World} {vs vr us ur : Value} (h1 : RunsOut L st xs w vs vr) (h2 : RunsOut L (L - 1 - st) zs w us ur) (hz : zs = xs.map (turnS L)) (hx : checkI L st xs = 0) (hu : ∀ x ∈ xs, 0 ≤ x.f1) (hl : xs.length = n) :
    ∃ (n0 : Nat) (Al Ar Bl Br : Option Addr) (LL LM : List S28) (RL RM : List (List Int)), vs = .slice Al n0 n0 ∧ vr = .slice Ar n0 n0 ∧ us = .slice Bl n0 n0 ∧ ur = .slice Br n0 n0 ∧
      (Kd.C k28 w Al n0 LL ∧ Kd.C sl8 w Ar n0 RL ∧ Kd.C k28 w Bl n0 LM ∧ Kd.C sl8 w Br n0 RM) ∧ n0 ≤ n ∧ (possI L st xs = 0 → n0 = n) ∧
      ∀ j, j < n0 → ∃ a b r1 r2, LL[j]? = some ⟨a, b⟩ ∧ LM[j]? = some ⟨L - 1 - b, L - 1 - a⟩ ∧ RL[j]? = some r1 ∧ RM[j]? = some r2 ∧ r1.length = r2.length ∧ r2.length ≤ 3 ∧ 0 ≤ a ∧ a ≤ b ∧ b < L ∧
        rankR L (L - 1 - st) zs ((n0 - 1 - j : Nat) : Int) = (L - (rankR L st xs j).2, L - (rankR L st xs j).1) ∧ askE L (L - 1 - st) zs ((n0 - 1 - j : Nat) : Int) = 0 ∧ askE L st xs j = 0 ∧ 0 ≤ (rankR L st xs j).1 ∧ (rankR L st xs j).1 ≤ (rankR L st xs j).2 ∧ (rankR L st xs j).2 ≤ L := by
  obtain ⟨hp, hm, hlaw⟩ := turn_law hz hx hu
  have hzl : zs.length = n := by rw [hz, List.length_map, hl]
  by_cases h0 : possI L st xs = 0
  · obtain ⟨Al, Ar, rfl, rfl, c1, c2⟩ := h1.ok h0 n hl
    obtain ⟨Bl, Br, rfl, rfl, c3, c4⟩ := h2.ok (hp.trans h0) n hzl
    obtain ⟨k1, k2, k3, k4, k5⟩ := check_ok hx
    obtain ⟨_, hne⟩ := poss_ok h0
    refine ⟨n, Al, Ar, Bl, Br, _, _, _, _, rfl, rfl, rfl, rfl, ⟨c1, c2, c3, c4⟩, Nat.le_refl _, fun _ => rfl, fun j hj => ?_⟩
    have hb : ∀ m ∈ lvAt (hists L st xs) j, 0 ≤ m ∧ m < L := by
      intro m hm
      obtain ⟨h, hh, rfl⟩ := List.mem_map.1 hm
      have hl2 := hists_len L xs st h hh
      rw [List.getD_eq_getElem?_getD, List.getElem?_eq_getElem (by omega)]
      exact (hists_all L xs st k3 k4 h hh _ (List.getElem_mem (by omega : j < h.length))).2.2
    have hlv : lvAt (hists L st xs) j ≠ [] := fun e => hne (List.map_eq_nil_iff.1 e)
    obtain ⟨m1, m2, m3⟩ := sp_mem _ hlv
    obtain ⟨q1, q2, q3, q4, q5⟩ := hlaw h0 j (by omega)
    have q6 := rise_law h0 j (by omega)
    rw [hl] at q3 q4
    refine ⟨(sp (lvAt (hists L st xs) j)).1, (sp (lvAt (hists L st xs) j)).2, rowR (rsAt (hists L st xs) j), rowR (rsAt (hists L (L - 1 - st) zs) j), ?_, ?_, ?_, ?_, q2.symm, rowR_len _, (hb _ m1).1, (m3 _ m1).2, (hb _ m2).2, q3, q4, q5, q6.2.1, q6.1, q6.2.2.1⟩
    · rw [List.getElem?_map, List.getElem?_range hj]; rfl
    · rw [List.getElem?_map, List.getElem?_range hj]; simp only [Option.map_some, q1]
    · rw [List.getElem?_map, List.getElem?_range hj]; rfl
    · rw [List.getElem?_map, List.getElem?_range hj]; rfl
  · obtain ⟨rfl, rfl⟩ := h1.no h0
    obtain ⟨rfl, rfl⟩ := h2.no (by rw [hp]; exact h0)
    exact ⟨0, none, none, none, none, [], [], [], [], rfl, rfl, rfl, rfl, ⟨Kd.C_nil _ _, Kd.C_nil _ _, Kd.C_nil _ _, Kd.C_nil _ _⟩, by omega, fun e => absurd e h0, fun j hj => absurd hj (by omega)⟩
set_option maxHeartbeats 4000000 in
set_option maxRecDepth 100000 in
theorem law_turned (L st : Int) (A : Option Addr) (c : Nat) (l : List S43) (w : World) (hr : Kd.C k43 w A l.length l) (hc : l.length ≤ c) (hl : l.length < 8796093022208) (hu : ∀ x ∈ l, 0 ≤ x.f1) :
    Calls Try.prog 13 #[.agg #[.int .i64 L, .int .i64 st, .slice A l.length c]] w fun e w' => e = .returned (.bool true) ∧ Below w.heap.size w w' := by
  have hu24 := Try.underlying24
  have HR := Aside0.mk hr
  have HC := Aside0.mk hc
  have HU := Aside0.mk hu
  clear hr hc hu
  have KB : Aside0 (Below w.heap.size w (w.alloc (.cells #[.int .i64 L, .int .i64 st, .slice A l.length c] 24))) := ⟨(Below.refl _ w).alloc (by simp) _⟩
  have X := Aside0.mk (blk_new w (.cells #[.int .i64 L, .int .i64 st, .slice A l.length c] 24))
  obtain ⟨xs, hxs⟩ : ∃ xs, l.map up = xs := ⟨_, rfl⟩
  have HX := Aside0.mk hxs
  clear hxs
  have HLT : Aside0 (w.heap.size < (w.alloc (.cells #[.int .i64 L, .int .i64 st, .slice A l.length c] 24)).heap.size) := ⟨by simp⟩
  go_enter Try.func13, Try.ntmps13
  go_wp2_with fail
  generalize w.alloc (.cells #[.int .i64 L, .int .i64 st, .slice A l.length c] 24) = w0 at KB X HLT ⊢
  have qX0 : w0.cell? ⟨w.heap.size, 0, none⟩ = some (.int .i64 L) := (blk_cell X.out 0).trans rfl
  have qX1 : w0.cell? ⟨w.heap.size, 1, none⟩ = some (.int .i64 st) := (blk_cell X.out 1).trans rfl
  have qX2 : w0.cell? ⟨w.heap.size, 2, none⟩ = some (.slice A l.length c) := (blk_cell X.out 2).trans rfl
  have lX := blk_lt X.out
  have hu28 := Try.underlying28
  have hu43 := Try.underlying43
  obtain ⟨rb, hrb⟩ : ∃ rb, decide (checkI L st (l.map up) = 0) = rb := ⟨_, rfl⟩
  have HRB := Aside0.mk hrb
  clear hrb
  refine (ready_calls L st A c l _ (Kd.C_below HR.out KB.out) HC.out (by omega) rb HRB.out).mono ?_
  rintro e w1 ⟨rfl, hb1⟩
  clear qX0 qX1 qX2 lX
  replace KB := Aside0.mk (KB.out.trans (hb1.mono KB.out.size))
  replace X := Aside0.mk (blk_below X.out hb1)
  clear hb1
  have qX0 : w1.cell? ⟨w.heap.size, 0, none⟩ = some (.int .i64 L) := (blk_cell X.out 0).trans rfl
  have qX1 : w1.cell? ⟨w.heap.size, 1, none⟩ = some (.int .i64 st) := (blk_cell X.out 1).trans rfl
  have qX2 : w1.cell? ⟨w.heap.size, 2, none⟩ = some (.slice A l.length c) := (blk_cell X.out 2).trans rfl
  have lX := blk_lt X.out
  cases rb with
  | false =>
    go_wp2_with fail
    refine (awake_calls _).mono ?_
    rintro e w2 ⟨rfl, hb2⟩
    clear qX0 qX1 qX2 lX
    replace KB := Aside0.mk (KB.out.trans (hb2.mono KB.out.size))
    replace X := Aside0.mk (blk_below X.out hb2)
    clear hb2
    have qX0 : w2.cell? ⟨w.heap.size, 0, none⟩ = some (.int .i64 L) := (blk_cell X.out 0).trans rfl
    have qX1 : w2.cell? ⟨w.heap.size, 1, none⟩ = some (.int .i64 st) := (blk_cell X.out 1).trans rfl
    have qX2 : w2.cell? ⟨w.heap.size, 2, none⟩ = some (.slice A l.length c) := (blk_cell X.out 2).trans rfl
    have lX := blk_lt X.out
    go_wp2_with fail
    go_ret
    exact ⟨rfl, KB.out⟩
  | true =>
    have HCK : Aside0 (checkI L st (l.map up) = 0) := ⟨of_decide_eq_true HRB.out⟩
    have HXL : Aside0 (xs.length = l.length) := ⟨by rw [← HX.out]; simp⟩
    have HN14 : Aside0 (l.length ≤ 14) := ⟨by have := (check_ok HCK.out).2.2.2.2; simpa using this⟩
    have hn14 : (l.length : Int) ≤ 14 := by have := HN14.out; omega
    obtain ⟨k1, k2, k3, k4, _⟩ := check_ok HCK.out
    have HOK := Aside0.mk (runOk HCK.out HU.out)
    go_wp2_with fail
    obtain ⟨s2, hs2⟩ : ∃ s2, L - 1 - st = s2 := ⟨_, rfl⟩
    rw [hs2]
    have HS2 := Aside0.mk hs2
    clear hs2
    clear qX0 qX1 qX2 lX
    have XX : Aside0 ((w1.alloc (.cells #[.int .i64 L, .int .i64 s2, .slice none 0 0] 24)).heap[w1.heap.size]? = some (.cells #[.int .i64 L, .int .i64 s2, .slice none 0 0] 24 (0, 0))) := ⟨blk_new _ _⟩
    have NX : Aside0 (w.heap.size < w1.heap.size) := ⟨blk_lt X.out⟩
    replace X := Aside0.mk (blk_alloc X.out (.cells #[.int .i64 L, .int .i64 s2, .slice none 0 0] 24))
    replace KB := Aside0.mk (KB.out.alloc KB.out.size (.cells #[.int .i64 L, .int .i64 s2, .slice none 0 0] 24))
    obtain ⟨gX, hgX⟩ : ∃ g, w1.heap.size = g := ⟨_, rfl⟩
    rw [hgX] at XX NX ⊢
    have HGX : Aside0 (gX < (w1.alloc (.cells #[.int .i64 L, .int .i64 s2, .slice none 0 0] 24)).heap.size) := ⟨by rw [← hgX]; simp⟩
    clear hgX
    generalize (w1.alloc (.cells #[.int .i64 L, .int .i64 s2, .slice none 0 0] 24)) = w5 at XX X KB HGX ⊢
    go_loopw [4] (fun i wr => ∃ jn : Nat, jn ≤ l.length ∧ i = .int .i64 jn ∧ Aside0 (∃ v, wr.heap[gX]? = some (.cells #[.int .i64 L, .int .i64 s2, v] 24 (0, 0)) ∧ k43.R 43 wr w.heap.size (fun _ => True) v ((l.take jn).map (turn43 L))) ∧ Aside0 (Below w.heap.size w wr) ∧ Aside0 (wr.heap[w.heap.size]? = some (.cells #[.int .i64 L, .int .i64 st, .slice A l.length c] 24 (0, 0)))) (fun i _ => l.length - (intOf i).toNat)
    case atStart => exact ⟨0, by omega, rfl, ⟨_, XX.out, Kd.R_nil _ _ _ _ _⟩, KB, X⟩
    case round =>
      clear XX KB X
      obtain ⟨jn, hj, rfl, hv, KB, X⟩ := hrel
      obtain ⟨v, hv1, hv2⟩ := hv.out
      have XX := Aside0.mk hv1
      have HV := Aside0.mk hv2
      clear hv hv1 hv2
      have qX0 : wr.cell? ⟨w.heap.size, 0, none⟩ = some (.int .i64 L) := (blk_cell X.out 0).trans rfl
      have qX1 : wr.cell? ⟨w.heap.size, 1, none⟩ = some (.int .i64 st) := (blk_cell X.out 1).trans rfl
      have qX2 : wr.cell? ⟨w.heap.size, 2, none⟩ = some (.slice A l.length c) := (blk_cell X.out 2).trans rfl
      have lX := blk_lt X.out
      have qXX0 : wr.cell? ⟨gX, 0, none⟩ = some (.int .i64 L) := (blk_cell XX.out 0).trans rfl
      have qXX1 : wr.cell? ⟨gX, 1, none⟩ = some (.int .i64 s2) := (blk_cell XX.out 1).trans rfl
      have qXX2 : wr.cell? ⟨gX, 2, none⟩ = some (v) := (blk_cell XX.out 2).trans rfl
      have lXX := blk_lt XX.out
      have f2 := blk_frozen XX.out 2
      by_cases hj3 : jn < l.length
      · have hj6 : decide ((jn : Int) < (l.length : Int)) = true := decide_eq_true (by omega)
        have hj7 : (jn : Int) < (l.length : Int) := by omega
        obtain ⟨ad, rfl, g0, g1⟩ := cell43 (Kd.C_below HR.out KB.out) jn hj3
        obtain ⟨h1, h2, h3, h4⟩ := HOK.out _ (List.getElem_mem hj3)
        obtain ⟨⟨y0, y1⟩, hy⟩ : ∃ y, l[jn] = y := ⟨_, rfl⟩
        rw [hy] at g0 g1 h1 h2 h3 h4
        have g0 : wr.cell? (ad.add (jn * 2)) = some (.int .i64 y0) := g0
        have g1 : wr.cell? ⟨(ad.add (jn * 2)).block, (ad.add (jn * 2)).off + 1, none⟩ = some (.int .u8 y1) := g1
        have h1 : -1 ≤ y0 := h1
        have h2 : y0 ≤ L - 1 := h2
        have h3 : 0 ≤ y1 := h3
        have h4 : y1 ≤ 3 := h4
        have HT : Aside0 ((l.take (jn + 1)).map (turn43 L) = (l.take jn).map (turn43 L) ++ [turn43 L ⟨y0, y1⟩]) := ⟨by rw [List.take_add_one, List.getElem?_eq_getElem hj3, hy]; simp⟩
        clear hy
        have hgl := World.block_lt_of_cell? _ _ g0
        by_cases hy0 : 0 ≤ y0
        · have d1 : decide ((0 : Int) ≤ y0) = true := decide_eq_true hy0
          by_cases hy1 : y1 < 2
          · have d2 : decide (y1 < 2) = true := decide_eq_true hy1
            have HU8 : IntKind.u8.wrap (1 - y1) = 1 - y1 := by rw [show IntKind.u8.wrap (1 - y1) = (1 - y1) % 256 by simp [IntKind.wrap, IntKind.bits, IntKind.signed]]; omega
            have HTT : Aside0 (turn43 L ⟨y0, y1⟩ = ⟨L - 1 - y0, 1 - y1⟩) := ⟨by unfold turn43 turnR; simp only; rw [if_pos hy0, if_pos hy1]⟩
            clear hy0 hy1
            go_wp2_with (first | ((with_reducible refine gate_builtin (b := .append) (xs := #[.tmp 64, .tmp 66]) rfl ?_); at_builtin; go_loud (refine Kd.R_append k43 (w0 := w) w.heap.size rfl (.tmp 64) (.tmp 66) 22 43 (.agg #[(.int .i64 0), (.int .u8 0)]) 16 rfl Try.underlying22 info43t rfl (by decide) (by omega) v ((l.take jn).map (turn43 L)) (⟨L - 1 - y0, 1 - y1⟩ : S43) [.int .i64 (L - 1 - y0), .int .u8 (1 - y1)] (fun _ => True) (fun _ => False) rfl (by simp [Act.eval]) (k43_mkM _ _ _ ⟨L - 1 - y0, 1 - y1⟩) (fun _ h => h.elim) (fun _ _ => trivial) (Kd.R_alloc HV.out _) (KB.out.alloc KB.out.size _) (by have := KB.out.size; simp; omega) (by have := HN14.out; simp; omega) ?_; intro v7 w8 hR hb hg hat; obtain ⟨A7, n7, c7, rfl⟩ : ∃ A n c, v7 = .slice A n c := (by obtain ⟨A, c, h⟩ := Kd.R_slice hR; exact ⟨A, _, c, h⟩); have HV8 := Aside0.mk hR; have HB8 := Aside0.mk hb; have XX8 := Aside0.mk (blk_grown (blk_alloc XX.out (.cells #[.int .i64 (L - 1 - y0), .int .u8 (1 - y1)] 43)) hg (Kd.R_ne (Kd.R_alloc HV.out _) (blk_alloc XX.out (.cells #[.int .i64 (L - 1 - y0), .int .u8 (1 - y1)] 43)) (by decide))); have X8 := Aside0.mk (blk_grown (blk_alloc X.out (.cells #[.int .i64 (L - 1 - y0), .int .u8 (1 - y1)] 43)) hg (Kd.R_ne (Kd.R_alloc HV.out _) (blk_alloc X.out (.cells #[.int .i64 (L - 1 - y0), .int .u8 (1 - y1)] 43)) (by decide))); clear hR hb hg hat; have y0_ : w8.cell? ⟨gX, 2, none⟩ = some v := (blk_cell XX8.out 2).trans rfl; have y1_ := blk_frozen XX8.out 2)))
            go_roundw
            case rel =>
              refine ⟨jn + 1, by omega, by go_num, ⟨_, blk_put XX8.out 2 _ rfl, by rw [HT.out, HTT.out]; exact Kd.R_set HV8.out XX8.out (by decide) 2 _⟩, ⟨below_set HB8.out (Nat.le_of_lt NX.out)⟩, ⟨blk_far X8.out (by show w.heap.size ≠ gX; have := NX.out; omega) _⟩⟩
            case measure => simp [intOf]; omega
          · have d2 : decide (y1 < 2) = false := decide_eq_false hy1
            have HTT : Aside0 (turn43 L ⟨y0, y1⟩ = ⟨L - 1 - y0, y1⟩) := ⟨by unfold turn43 turnR; simp only; rw [if_pos hy0, if_neg hy1]⟩
            clear hy0 hy1
            go_wp2_with (first | ((with_reducible refine gate_builtin (b := .append) (xs := #[.tmp 64, .tmp 66]) rfl ?_); at_builtin; go_loud (refine Kd.R_append k43 (w0 := w) w.heap.size rfl (.tmp 64) (.tmp 66) 22 43 (.agg #[(.int .i64 0), (.int .u8 0)]) 16 rfl Try.underlying22 info43t rfl (by decide) (by omega) v ((l.take jn).map (turn43 L)) (⟨L - 1 - y0, y1⟩ : S43) [.int .i64 (L - 1 - y0), .int .u8 (y1)] (fun _ => True) (fun _ => False) rfl (by simp [Act.eval]) (k43_mkM _ _ _ ⟨L - 1 - y0, y1⟩) (fun _ h => h.elim) (fun _ _ => trivial) (Kd.R_alloc HV.out _) (KB.out.alloc KB.out.size _) (by have := KB.out.size; simp; omega) (by have := HN14.out; simp; omega) ?_; intro v7 w8 hR hb hg hat; obtain ⟨A7, n7, c7, rfl⟩ : ∃ A n c, v7 = .slice A n c := (by obtain ⟨A, c, h⟩ := Kd.R_slice hR; exact ⟨A, _, c, h⟩); have HV8 := Aside0.mk hR; have HB8 := Aside0.mk hb; have XX8 := Aside0.mk (blk_grown (blk_alloc XX.out (.cells #[.int .i64 (L - 1 - y0), .int .u8 (y1)] 43)) hg (Kd.R_ne (Kd.R_alloc HV.out _) (blk_alloc XX.out (.cells #[.int .i64 (L - 1 - y0), .int .u8 (y1)] 43)) (by decide))); have X8 := Aside0.mk (blk_grown (blk_alloc X.out (.cells #[.int .i64 (L - 1 - y0), .int .u8 (y1)] 43)) hg (Kd.R_ne (Kd.R_alloc HV.out _) (blk_alloc X.out (.cells #[.int .i64 (L - 1 - y0), .int .u8 (y1)] 43)) (by decide))); clear hR hb hg hat; have y0_ : w8.cell? ⟨gX, 2, none⟩ = some v := (blk_cell XX8.out 2).trans rfl; have y1_ := blk_frozen XX8.out 2)))
            go_roundw
            case rel =>
              refine ⟨jn + 1, by omega, by go_num, ⟨_, blk_put XX8.out 2 _ rfl, by rw [HT.out, HTT.out]; exact Kd.R_set HV8.out XX8.out (by decide) 2 _⟩, ⟨below_set HB8.out (Nat.le_of_lt NX.out)⟩, ⟨blk_far X8.out (by show w.heap.size ≠ gX; have := NX.out; omega) _⟩⟩
            case measure => simp [intOf]; omega
        · have d1 : decide ((0 : Int) ≤ y0) = false := decide_eq_false hy0
          have d3 : y0 < 0 := by omega
          by_cases hy1 : y1 < 2
          · have d2 : decide (y1 < 2) = true := decide_eq_true hy1
            have HU8 : IntKind.u8.wrap (1 - y1) = 1 - y1 := by rw [show IntKind.u8.wrap (1 - y1) = (1 - y1) % 256 by simp [IntKind.wrap, IntKind.bits, IntKind.signed]]; omega
            have HTT : Aside0 (turn43 L ⟨y0, y1⟩ = ⟨y0, 1 - y1⟩) := ⟨by unfold turn43 turnR; simp only; rw [if_neg hy0, if_pos hy1]⟩
            clear hy0 hy1
            go_wp2_with (first | ((with_reducible refine gate_builtin (b := .append) (xs := #[.tmp 64, .tmp 66]) rfl ?_); at_builtin; go_loud (refine Kd.R_append k43 (w0 := w) w.heap.size rfl (.tmp 64) (.tmp 66) 22 43 (.agg #[(.int .i64 0), (.int .u8 0)]) 16 rfl Try.underlying22 info43t rfl (by decide) (by omega) v ((l.take jn).map (turn43 L)) (⟨y0, 1 - y1⟩ : S43) [.int .i64 (y0), .int .u8 (1 - y1)] (fun _ => True) (fun _ => False) rfl (by simp [Act.eval]) (k43_mkM _ _ _ ⟨y0, 1 - y1⟩) (fun _ h => h.elim) (fun _ _ => trivial) (Kd.R_alloc HV.out _) (KB.out.alloc KB.out.size _) (by have := KB.out.size; simp; omega) (by have := HN14.out; simp; omega) ?_; intro v7 w8 hR hb hg hat; obtain ⟨A7, n7, c7, rfl⟩ : ∃ A n c, v7 = .slice A n c := (by obtain ⟨A, c, h⟩ := Kd.R_slice hR; exact ⟨A, _, c, h⟩); have HV8 := Aside0.mk hR; have HB8 := Aside0.mk hb; have XX8 := Aside0.mk (blk_grown (blk_alloc XX.out (.cells #[.int .i64 (y0), .int .u8 (1 - y1)] 43)) hg (Kd.R_ne (Kd.R_alloc HV.out _) (blk_alloc XX.out (.cells #[.int .i64 (y0), .int .u8 (1 - y1)] 43)) (by decide))); have X8 := Aside0.mk (blk_grown (blk_alloc X.out (.cells #[.int .i64 (y0), .int .u8 (1 - y1)] 43)) hg (Kd.R_ne (Kd.R_alloc HV.out _) (blk_alloc X.out (.cells #[.int .i64 (y0), .int .u8 (1 - y1)] 43)) (by decide))); clear hR hb hg hat; have y0_ : w8.cell? ⟨gX, 2, none⟩ = some v := (blk_cell XX8.out 2).trans rfl; have y1_ := blk_frozen XX8.out 2)))
            go_roundw
            case rel =>
              refine ⟨jn + 1, by omega, by go_num, ⟨_, blk_put XX8.out 2 _ rfl, by rw [HT.out, HTT.out]; exact Kd.R_set HV8.out XX8.out (by decide) 2 _⟩, ⟨below_set HB8.out (Nat.le_of_lt NX.out)⟩, ⟨blk_far X8.out (by show w.heap.size ≠ gX; have := NX.out; omega) _⟩⟩
            case measure => simp [intOf]; omega
          · have d2 : decide (y1 < 2) = false := decide_eq_false hy1
            have HTT : Aside0 (turn43 L ⟨y0, y1⟩ = ⟨y0, y1⟩) := ⟨by unfold turn43 turnR; simp only; rw [if_neg hy0, if_neg hy1]⟩
            clear hy0 hy1
            go_wp2_with (first | ((with_reducible refine gate_builtin (b := .append) (xs := #[.tmp 64, .tmp 66]) rfl ?_); at_builtin; go_loud (refine Kd.R_append k43 (w0 := w) w.heap.size rfl (.tmp 64) (.tmp 66) 22 43 (.agg #[(.int .i64 0), (.int .u8 0)]) 16 rfl Try.underlying22 info43t rfl (by decide) (by omega) v ((l.take jn).map (turn43 L)) (⟨y0, y1⟩ : S43) [.int .i64 (y0), .int .u8 (y1)] (fun _ => True) (fun _ => False) rfl (by simp [Act.eval]) (k43_mkM _ _ _ ⟨y0, y1⟩) (fun _ h => h.elim) (fun _ _ => trivial) (Kd.R_alloc HV.out _) (KB.out.alloc KB.out.size _) (by have := KB.out.size; simp; omega) (by have := HN14.out; simp; omega) ?_; intro v7 w8 hR hb hg hat; obtain ⟨A7, n7, c7, rfl⟩ : ∃ A n c, v7 = .slice A n c := (by obtain ⟨A, c, h⟩ := Kd.R_slice hR; exact ⟨A, _, c, h⟩); have HV8 := Aside0.mk hR; have HB8 := Aside0.mk hb; have XX8 := Aside0.mk (blk_grown (blk_alloc XX.out (.cells #[.int .i64 (y0), .int .u8 (y1)] 43)) hg (Kd.R_ne (Kd.R_alloc HV.out _) (blk_alloc XX.out (.cells #[.int .i64 (y0), .int .u8 (y1)] 43)) (by decide))); have X8 := Aside0.mk (blk_grown (blk_alloc X.out (.cells #[.int .i64 (y0), .int .u8 (y1)] 43)) hg (Kd.R_ne (Kd.R_alloc HV.out _) (blk_alloc X.out (.cells #[.int .i64 (y0), .int .u8 (y1)] 43)) (by decide))); clear hR hb hg hat; have y0_ : w8.cell? ⟨gX, 2, none⟩ = some v := (blk_cell XX8.out 2).trans rfl; have y1_ := blk_frozen XX8.out 2)))
            go_roundw
            case rel =>
              refine ⟨jn + 1, by omega, by go_num, ⟨_, blk_put XX8.out 2 _ rfl, by rw [HT.out, HTT.out]; exact Kd.R_set HV8.out XX8.out (by decide) 2 _⟩, ⟨below_set HB8.out (Nat.le_of_lt NX.out)⟩, ⟨blk_far X8.out (by show w.heap.size ≠ gX; have := NX.out; omega) _⟩⟩
            case measure => simp [intOf]; omega
      · have hj6 : decide ((jn : Int) < (l.length : Int)) = false := decide_eq_false (by omega)
        obtain rfl : jn = l.length := by omega
        have HYS0 := HV.out
        rw [List.take_length] at HYS0
        obtain ⟨ys, hys⟩ : ∃ ys, l.map (turn43 L) = ys := ⟨_, rfl⟩
        rw [hys] at HYS0
        have HYL : Aside0 (ys.length = l.length) := ⟨by rw [← hys]; simp⟩
        obtain ⟨A9, c9, hv9, _, _⟩ := Kd.R_reads HYS0
        rw [HYL.out] at hv9
        subst hv9
        have RY := Aside0.mk (rowC43 HYS0 HYL.out).1
        have HC9 := Aside0.mk (rowC43 HYS0 HYL.out).2
        clear HV HYS0 f2
        obtain ⟨zs, hzs⟩ : ∃ zs, ys.map up = zs := ⟨_, rfl⟩
        have HZ := Aside0.mk hzs
        have HZL : Aside0 (zs.length = l.length) := ⟨by rw [← hzs, List.length_map]; exact HYL.out⟩
        have HZT : Aside0 (zs = xs.map (turnS L)) := ⟨by rw [← hzs, ← hys, turn43_up, HX.out]⟩
        have HCX : Aside0 (checkI L st xs = 0) := ⟨by rw [← HX.out]; exact HCK.out⟩
        have HUX : Aside0 (∀ x ∈ xs, 0 ≤ x.f1) := ⟨by rw [← HX.out]; intro x hx; obtain ⟨y, hy, rfl⟩ := List.mem_map.1 hx; exact HU.out y hy⟩
        have htl := turn_law HZT.out HCX.out HUX.out
        rw [HS2.out] at htl
        have HTL := Aside0.mk htl
        clear hys hzs htl
        clear qX0 qX1 qX2 lX qXX0 qXX1 qXX2 lXX
        have qX0 : wr.cell? ⟨w.heap.size, 0, none⟩ = some (.int .i64 L) := (blk_cell X.out 0).trans rfl
        have qX1 : wr.cell? ⟨w.heap.size, 1, none⟩ = some (.int .i64 st) := (blk_cell X.out 1).trans rfl
        have qX2 : wr.cell? ⟨w.heap.size, 2, none⟩ = some (.slice A l.length c) := (blk_cell X.out 2).trans rfl
        have lX := blk_lt X.out
        have qXX0 : wr.cell? ⟨gX, 0, none⟩ = some (.int .i64 L) := (blk_cell XX.out 0).trans rfl
        have qXX1 : wr.cell? ⟨gX, 1, none⟩ = some (.int .i64 s2) := (blk_cell XX.out 1).trans rfl
        have qXX2 : wr.cell? ⟨gX, 2, none⟩ = some (.slice A9 l.length c9) := (blk_cell XX.out 2).trans rfl
        have lXX := blk_lt XX.out
        obtain ⟨pv, hpv⟩ : ∃ pv, possI L st xs = pv := ⟨_, rfl⟩
        have HPV := Aside0.mk hpv
        clear hpv
        obtain ⟨mv, hmv⟩ : ∃ mv, manyI L st xs = mv := ⟨_, rfl⟩
        have HMV := Aside0.mk hmv
        clear hmv
        go_wp2_with fail
        refine (stairs_n L st A c l _ l.length rfl (Kd.C_below HR.out KB.out) HC.out (by omega) xs HX.out l.length HXL.out).mono ?_
        rintro e w61 ⟨⟨A1, c1, rfl, HC1⟩, hb61⟩
        clear qX0 qX1 qX2 qXX0 qXX1 qXX2 lX lXX
        replace KB := Aside0.mk (KB.out.trans (hb61.mono KB.out.size))
        replace X := Aside0.mk (blk_below X.out hb61)
        replace XX := Aside0.mk (blk_below XX.out hb61)
        replace RY := Aside0.mk (Kd.C_below RY.out hb61)
        clear hb61
        have qX0 : w61.cell? ⟨w.heap.size, 0, none⟩ = some (.int .i64 L) := (blk_cell X.out 0).trans rfl
        have qX1 : w61.cell? ⟨w.heap.size, 1, none⟩ = some (.int .i64 st) := (blk_cell X.out 1).trans rfl
        have qX2 : w61.cell? ⟨w.heap.size, 2, none⟩ = some (.slice A l.length c) := (blk_cell X.out 2).trans rfl
        have lX := blk_lt X.out
        have qXX0 : w61.cell? ⟨gX, 0, none⟩ = some (.int .i64 L) := (blk_cell XX.out 0).trans rfl
        have qXX1 : w61.cell? ⟨gX, 1, none⟩ = some (.int .i64 s2) := (blk_cell XX.out 1).trans rfl
        have qXX2 : w61.cell? ⟨gX, 2, none⟩ = some (.slice A9 l.length c9) := (blk_cell XX.out 2).trans rfl
        have lXX := blk_lt XX.out
        go_wp2_with fail
        refine (count_n L st A1 c1 xs _ l.length HXL.out HC1.out.1 HC1.out.2).mono ?_
        rintro e w62 ⟨rfl, hb62⟩
        clear qX0 qX1 qX2 qXX0 qXX1 qXX2 lX lXX
        replace KB := Aside0.mk (KB.out.trans (hb62.mono KB.out.size))
        replace X := Aside0.mk (blk_below X.out hb62)
        replace XX := Aside0.mk (blk_below XX.out hb62)
        replace RY := Aside0.mk (Kd.C_below RY.out hb62)
        rw [HMV.out, HPV.out]
        clear hb62
        have qX0 : w62.cell? ⟨w.heap.size, 0, none⟩ = some (.int .i64 L) := (blk_cell X.out 0).trans rfl
        have qX1 : w62.cell? ⟨w.heap.size, 1, none⟩ = some (.int .i64 st) := (blk_cell X.out 1).trans rfl
        have qX2 : w62.cell? ⟨w.heap.size, 2, none⟩ = some (.slice A l.length c) := (blk_cell X.out 2).trans rfl
        have lX := blk_lt X.out
        have qXX0 : w62.cell? ⟨gX, 0, none⟩ = some (.int .i64 L) := (blk_cell XX.out 0).trans rfl
        have qXX1 : w62.cell? ⟨gX, 1, none⟩ = some (.int .i64 s2) := (blk_cell XX.out 1).trans rfl
        have qXX2 : w62.cell? ⟨gX, 2, none⟩ = some (.slice A9 l.length c9) := (blk_cell XX.out 2).trans rfl
        have lXX := blk_lt XX.out
        go_wp2_with fail
        refine (stairs_n L s2 A9 c9 ys _ l.length HYL.out RY.out HC9.out (by omega) zs HZ.out l.length HZL.out).mono ?_
        rintro e w63 ⟨⟨A2, c2, rfl, HC2⟩, hb63⟩
        clear qX0 qX1 qX2 qXX0 qXX1 qXX2 lX lXX
        replace KB := Aside0.mk (KB.out.trans (hb63.mono KB.out.size))
        replace X := Aside0.mk (blk_below X.out hb63)
        replace XX := Aside0.mk (blk_below XX.out hb63)
        replace RY := Aside0.mk (Kd.C_below RY.out hb63)
        clear hb63
        have qX0 : w63.cell? ⟨w.heap.size, 0, none⟩ = some (.int .i64 L) := (blk_cell X.out 0).trans rfl
        have qX1 : w63.cell? ⟨w.heap.size, 1, none⟩ = some (.int .i64 st) := (blk_cell X.out 1).trans rfl
        have qX2 : w63.cell? ⟨w.heap.size, 2, none⟩ = some (.slice A l.length c) := (blk_cell X.out 2).trans rfl
        have lX := blk_lt X.out
        have qXX0 : w63.cell? ⟨gX, 0, none⟩ = some (.int .i64 L) := (blk_cell XX.out 0).trans rfl
        have qXX1 : w63.cell? ⟨gX, 1, none⟩ = some (.int .i64 s2) := (blk_cell XX.out 1).trans rfl
        have qXX2 : w63.cell? ⟨gX, 2, none⟩ = some (.slice A9 l.length c9) := (blk_cell XX.out 2).trans rfl
        have lXX := blk_lt XX.out
        go_wp2_with fail
        refine (count_n L s2 A2 c2 zs _ l.length HZL.out HC2.out.1 HC2.out.2).mono ?_
        rintro e w64 ⟨rfl, hb64⟩
        clear qX0 qX1 qX2 qXX0 qXX1 qXX2 lX lXX
        replace KB := Aside0.mk (KB.out.trans (hb64.mono KB.out.size))
        replace X := Aside0.mk (blk_below X.out hb64)
        replace XX := Aside0.mk (blk_below XX.out hb64)
        replace RY := Aside0.mk (Kd.C_below RY.out hb64)
        rw [HTL.out.2.1, HTL.out.1, HMV.out, HPV.out]
        clear hb64
        have qX0 : w64.cell? ⟨w.heap.size, 0, none⟩ = some (.int .i64 L) := (blk_cell X.out 0).trans rfl
        have qX1 : w64.cell? ⟨w.heap.size, 1, none⟩ = some (.int .i64 st) := (blk_cell X.out 1).trans rfl
        have qX2 : w64.cell? ⟨w.heap.size, 2, none⟩ = some (.slice A l.length c) := (blk_cell X.out 2).trans rfl
        have lX := blk_lt X.out
        have qXX0 : w64.cell? ⟨gX, 0, none⟩ = some (.int .i64 L) := (blk_cell XX.out 0).trans rfl
        have qXX1 : w64.cell? ⟨gX, 1, none⟩ = some (.int .i64 s2) := (blk_cell XX.out 1).trans rfl
        have qXX2 : w64.cell? ⟨gX, 2, none⟩ = some (.slice A9 l.length c9) := (blk_cell XX.out 2).trans rfl
        have lXX := blk_lt XX.out
        go_wp2_with fail
        refine (stairs_n L st A c l _ l.length rfl (Kd.C_below HR.out KB.out) HC.out (by omega) xs HX.out l.length HXL.out).mono ?_
        rintro e w65 ⟨⟨A3, c3, rfl, HC3⟩, hb65⟩
        clear qX0 qX1 qX2 qXX0 qXX1 qXX2 lX lXX
        replace KB := Aside0.mk (KB.out.trans (hb65.mono KB.out.size))
        replace X := Aside0.mk (blk_below X.out hb65)
        replace XX := Aside0.mk (blk_below XX.out hb65)
        replace RY := Aside0.mk (Kd.C_below RY.out hb65)
        clear hb65
        have qX0 : w65.cell? ⟨w.heap.size, 0, none⟩ = some (.int .i64 L) := (blk_cell X.out 0).trans rfl
        have qX1 : w65.cell? ⟨w.heap.size, 1, none⟩ = some (.int .i64 st) := (blk_cell X.out 1).trans rfl
        have qX2 : w65.cell? ⟨w.heap.size, 2, none⟩ = some (.slice A l.length c) := (blk_cell X.out 2).trans rfl
        have lX := blk_lt X.out
        have qXX0 : w65.cell? ⟨gX, 0, none⟩ = some (.int .i64 L) := (blk_cell XX.out 0).trans rfl
        have qXX1 : w65.cell? ⟨gX, 1, none⟩ = some (.int .i64 s2) := (blk_cell XX.out 1).trans rfl
        have qXX2 : w65.cell? ⟨gX, 2, none⟩ = some (.slice A9 l.length c9) := (blk_cell XX.out 2).trans rfl
        have lXX := blk_lt XX.out
        go_wp2_with fail
        refine (runs_n L st A3 c3 xs l.length _ HXL.out HC3.out.1 HC3.out.2).mono ?_
        rintro e w66 ⟨vs, vr, rfl, hO, hb66⟩
        clear qX0 qX1 qX2 qXX0 qXX1 qXX2 lX lXX
        replace KB := Aside0.mk (KB.out.trans (hb66.mono KB.out.size))
        replace X := Aside0.mk (blk_below X.out hb66)
        replace XX := Aside0.mk (blk_below XX.out hb66)
        replace RY := Aside0.mk (Kd.C_below RY.out hb66)
        rw [HPV.out]
        have HO1 := Aside0.mk hO
        clear hO
        clear hb66
        have qX0 : w66.cell? ⟨w.heap.size, 0, none⟩ = some (.int .i64 L) := (blk_cell X.out 0).trans rfl
        have qX1 : w66.cell? ⟨w.heap.size, 1, none⟩ = some (.int .i64 st) := (blk_cell X.out 1).trans rfl
        have qX2 : w66.cell? ⟨w.heap.size, 2, none⟩ = some (.slice A l.length c) := (blk_cell X.out 2).trans rfl
        have lX := blk_lt X.out
        have qXX0 : w66.cell? ⟨gX, 0, none⟩ = some (.int .i64 L) := (blk_cell XX.out 0).trans rfl
        have qXX1 : w66.cell? ⟨gX, 1, none⟩ = some (.int .i64 s2) := (blk_cell XX.out 1).trans rfl
        have qXX2 : w66.cell? ⟨gX, 2, none⟩ = some (.slice A9 l.length c9) := (blk_cell XX.out 2).trans rfl
        have lXX := blk_lt XX.out
        go_wp2_with fail
        refine (stairs_n L s2 A9 c9 ys _ l.length HYL.out RY.out HC9.out (by omega) zs HZ.out l.length HZL.out).mono ?_
        rintro e w67 ⟨⟨A4, c4, rfl, HC4⟩, hb67⟩
        clear qX0 qX1 qX2 qXX0 qXX1 qXX2 lX lXX
        replace KB := Aside0.mk (KB.out.trans (hb67.mono KB.out.size))
        replace X := Aside0.mk (blk_below X.out hb67)
        replace XX := Aside0.mk (blk_below XX.out hb67)
        replace RY := Aside0.mk (Kd.C_below RY.out hb67)
        replace HO1 := Aside0.mk (RunsOut.below HO1.out hb67)
        clear hb67
        have qX0 : w67.cell? ⟨w.heap.size, 0, none⟩ = some (.int .i64 L) := (blk_cell X.out 0).trans rfl
        have qX1 : w67.cell? ⟨w.heap.size, 1, none⟩ = some (.int .i64 st) := (blk_cell X.out 1).trans rfl
        have qX2 : w67.cell? ⟨w.heap.size, 2, none⟩ = some (.slice A l.length c) := (blk_cell X.out 2).trans rfl
        have lX := blk_lt X.out
        have qXX0 : w67.cell? ⟨gX, 0, none⟩ = some (.int .i64 L) := (blk_cell XX.out 0).trans rfl
        have qXX1 : w67.cell? ⟨gX, 1, none⟩ = some (.int .i64 s2) := (blk_cell XX.out 1).trans rfl
        have qXX2 : w67.cell? ⟨gX, 2, none⟩ = some (.slice A9 l.length c9) := (blk_cell XX.out 2).trans rfl
        have lXX := blk_lt XX.out
        go_wp2_with fail
        refine (runs_n L s2 A4 c4 zs l.length _ HZL.out HC4.out.1 HC4.out.2).mono ?_
        rintro e w68 ⟨us, ur, rfl, hO, hb68⟩
        clear qX0 qX1 qX2 qXX0 qXX1 qXX2 lX lXX
        replace KB := Aside0.mk (KB.out.trans (hb68.mono KB.out.size))
        replace X := Aside0.mk (blk_below X.out hb68)
        replace XX := Aside0.mk (blk_below XX.out hb68)
        replace RY := Aside0.mk (Kd.C_below RY.out hb68)
        replace HO1 := Aside0.mk (RunsOut.below HO1.out hb68)
        rw [HTL.out.1, HPV.out]
        have HO2 := Aside0.mk hO
        clear hO
        clear hb68
        have qX0 : w68.cell? ⟨w.heap.size, 0, none⟩ = some (.int .i64 L) := (blk_cell X.out 0).trans rfl
        have qX1 : w68.cell? ⟨w.heap.size, 1, none⟩ = some (.int .i64 st) := (blk_cell X.out 1).trans rfl
        have qX2 : w68.cell? ⟨w.heap.size, 2, none⟩ = some (.slice A l.length c) := (blk_cell X.out 2).trans rfl
        have lX := blk_lt X.out
        have qXX0 : w68.cell? ⟨gX, 0, none⟩ = some (.int .i64 L) := (blk_cell XX.out 0).trans rfl
        have qXX1 : w68.cell? ⟨gX, 1, none⟩ = some (.int .i64 s2) := (blk_cell XX.out 1).trans rfl
        have qXX2 : w68.cell? ⟨gX, 2, none⟩ = some (.slice A9 l.length c9) := (blk_cell XX.out 2).trans rfl
        have lXX := blk_lt XX.out
        obtain ⟨n0, Al, Ar, Bl, Br, LL, LM, RL, RM, rfl, rfl, rfl, rfl, hC, hn0, hnp, hkey⟩ := turn_key HO1.out (by rw [HS2.out]; exact HO2.out) HZT.out HCX.out HUX.out HXL.out
        rw [HPV.out] at hnp
        rw [HS2.out] at hkey
        have HL := Aside0.mk hC.1
        have HRR := Aside0.mk hC.2.1
        have HL2 := Aside0.mk hC.2.2.1
        have HRR2 := Aside0.mk hC.2.2.2
        have HKEY := Aside0.mk hkey
        have hn15 : (n0 : Int) ≤ 14 := by omega
        have HN0 : Aside0 (n0 ≤ l.length) := ⟨hn0⟩
        clear hC hkey HO1 HO2
        have u1 : (pv != pv) = false := bne_eq_false_iff_eq.2 rfl
        have u2 : (mv != mv) = false := bne_eq_false_iff_eq.2 rfl
        have u3 : ((n0 : Int) != (n0 : Int)) = false := bne_eq_false_iff_eq.2 rfl
        by_cases hp : pv = 0
        case' pos =>
          have u4 : (pv == 0) = true := beq_iff_eq.2 hp
          have u5 : ((n0 : Int) != (l.length : Int)) = false := bne_eq_false_iff_eq.2 (by have := hnp hp; omega)
          clear hp hnp
          go_wp2_with ((with_reducible show Oper.upon _ _ _ _ _ _); go_simp)
          clear u4 u5
        case' neg =>
          have u4 : (pv == 0) = false := beq_eq_false_iff_ne.2 hp
          clear hp hnp
          go_wp2_with ((with_reducible show Oper.upon _ _ _ _ _ _); go_simp)
          clear u4
        all_goals
          clear qX0 qX1 qX2 qXX0 qXX1 qXX2 lX lXX
          clear u1 u2 u3
          go_loopw [16] (fun i wr => ∃ jn : Nat, jn ≤ n0 ∧ i = .int .i64 jn ∧ Aside0 (Below w.heap.size w wr) ∧ Aside0 (wr.heap[w.heap.size]? = some (.cells #[.int .i64 L, .int .i64 st, .slice A l.length c] 24 (0, 0))) ∧ Aside0 (wr.heap[gX]? = some (.cells #[.int .i64 L, .int .i64 s2, .slice A9 l.length c9] 24 (0, 0))) ∧ Aside0 (Kd.C k43 wr A9 l.length ys) ∧ Aside0 (Kd.C k28 wr Al n0 LL) ∧ Aside0 (Kd.C sl8 wr Ar n0 RL) ∧ Aside0 (Kd.C k28 wr Bl n0 LM) ∧ Aside0 (Kd.C sl8 wr Br n0 RM)) (fun i _ => n0 - (intOf i).toNat)
          case atStart => exact ⟨0, by omega, rfl, KB, X, XX, RY, HL, HRR, HL2, HRR2⟩
          case round =>
            clear KB X XX RY HL HRR HL2 HRR2
            obtain ⟨jn, hj, rfl, KB, X, XX, RY, HL, HRR, HL2, HRR2⟩ := hrel
            by_cases hj3 : jn < n0
            · have hj6 : decide ((jn : Int) < (n0 : Int)) = true := decide_eq_true (by omega)
              have hj7 : (jn : Int) < (n0 : Int) := by omega
              have hj8 : (0 : Int) ≤ (jn : Int) := by omega
              obtain ⟨a, b, r1, r2, e1, e2, e3, e4, e5, e6, e7, e8, e9, q1, q2, q3, q4, q5, q6⟩ := HKEY.out jn hj3
              obtain ⟨nw, hnw⟩ : ∃ nw, r2.length = nw := ⟨_, rfl⟩
              have hnw3 : nw ≤ 3 := hnw ▸ e6
              rw [hnw] at e5
              obtain ⟨ra, hra⟩ : ∃ ra, (rankR L st xs jn).1 = ra := ⟨_, rfl⟩
              obtain ⟨rb_, hrb_⟩ : ∃ rb_, (rankR L st xs jn).2 = rb_ := ⟨_, rfl⟩
              rw [hra, hrb_] at q1
              rw [hra] at q4 q5
              rw [hrb_] at q5 q6
              have HRA := Aside0.mk hra
              have HRB := Aside0.mk hrb_
              have hk0 : ((n0 - 1 - jn : Nat) : Int) = (n0 : Int) - 1 - jn := by omega
              rw [hk0] at q1 q2
              have HQ1 := Aside0.mk q1
              have HQ2 := Aside0.mk q2
              have HQ3 := Aside0.mk q3
              clear hra hrb_ hk0 q1 q2 q3
              obtain ⟨adl, rfl, g1, g2⟩ := cell28 HL.out jn hj3 e1
              obtain ⟨adm, rfl, g3, g4⟩ := cell28 HL2.out jn hj3 e2
              obtain ⟨adr, A0, c0, rfl, g5, _, g6⟩ := cellRow HRR.out jn hj3 r1 e3
              obtain ⟨adt, A00, c00, rfl, g7, _, g8⟩ := cellRow HRR2.out jn hj3 r2 e4
              rw [e5] at g5
              rw [hnw] at g7
              clear e1 e2 e3 e4 e5 e6 g6 g8 hnw
              have b1 := World.block_lt_of_cell? _ _ g1
              have v1 : (L - 1 - b != L - 1 - b) = false := bne_eq_false_iff_eq.2 rfl
              have v2 : (L - 1 - a != L - 1 - a) = false := bne_eq_false_iff_eq.2 rfl
              have v3 : ((nw : Int) != (nw : Int)) = false := bne_eq_false_iff_eq.2 rfl
              have v4 : (L - rb_ != L - rb_) = false := bne_eq_false_iff_eq.2 rfl
              have v5 : (L - ra != L - ra) = false := bne_eq_false_iff_eq.2 rfl
              have qX0 : wr.cell? ⟨w.heap.size, 0, none⟩ = some (.int .i64 L) := (blk_cell X.out 0).trans rfl
              have qX1 : wr.cell? ⟨w.heap.size, 1, none⟩ = some (.int .i64 st) := (blk_cell X.out 1).trans rfl
              have qX2 : wr.cell? ⟨w.heap.size, 2, none⟩ = some (.slice A l.length c) := (blk_cell X.out 2).trans rfl
              have lX := blk_lt X.out
              have qXX0 : wr.cell? ⟨gX, 0, none⟩ = some (.int .i64 L) := (blk_cell XX.out 0).trans rfl
              have qXX1 : wr.cell? ⟨gX, 1, none⟩ = some (.int .i64 s2) := (blk_cell XX.out 1).trans rfl
              have qXX2 : wr.cell? ⟨gX, 2, none⟩ = some (.slice A9 l.length c9) := (blk_cell XX.out 2).trans rfl
              have lXX := blk_lt XX.out
              go_wp2_with fail
              go_quiet (fail)
              have hbq := pw_below_drewN (Below.refl wr.heap.size wr) nq
              replace KB := Aside0.mk (KB.out.trans (hbq.mono KB.out.size))
              replace X := Aside0.mk (blk_below X.out hbq)
              replace XX := Aside0.mk (blk_below XX.out hbq)
              replace RY := Aside0.mk (Kd.C_below RY.out hbq)
              replace HL := Aside0.mk (Kd.C_below HL.out hbq)
              replace HRR := Aside0.mk (Kd.C_below HRR.out hbq)
              replace HL2 := Aside0.mk (Kd.C_below HL2.out hbq)
              replace HRR2 := Aside0.mk (Kd.C_below HRR2.out hbq)
              clear qX0 qX1 qX2 qXX0 qXX1 qXX2 lX lXX
              clear hbq g1 g2 g3 g4 g5 g7 b1 v1 v2 v3
              generalize wr.drewN nq = w90 at KB X XX RY HL HRR HL2 HRR2 ⊢
              have qX0 : w90.cell? ⟨w.heap.size, 0, none⟩ = some (.int .i64 L) := (blk_cell X.out 0).trans rfl
              have qX1 : w90.cell? ⟨w.heap.size, 1, none⟩ = some (.int .i64 st) := (blk_cell X.out 1).trans rfl
              have qX2 : w90.cell? ⟨w.heap.size, 2, none⟩ = some (.slice A l.length c) := (blk_cell X.out 2).trans rfl
              have lX := blk_lt X.out
              have qXX0 : w90.cell? ⟨gX, 0, none⟩ = some (.int .i64 L) := (blk_cell XX.out 0).trans rfl
              have qXX1 : w90.cell? ⟨gX, 1, none⟩ = some (.int .i64 s2) := (blk_cell XX.out 1).trans rfl
              have qXX2 : w90.cell? ⟨gX, 2, none⟩ = some (.slice A9 l.length c9) := (blk_cell XX.out 2).trans rfl
              have lXX := blk_lt XX.out
              go_wp2_with fail
              refine (stairs_n L st A c l _ l.length rfl (Kd.C_below HR.out KB.out) HC.out (by omega) xs HX.out l.length HXL.out).mono ?_
              rintro e w91 ⟨⟨A5, c5, rfl, HC5⟩, hb91⟩
              clear qX0 qX1 qX2 qXX0 qXX1 qXX2 lX lXX
              replace KB := Aside0.mk (KB.out.trans (hb91.mono KB.out.size))
              replace X := Aside0.mk (blk_below X.out hb91)
              replace XX := Aside0.mk (blk_below XX.out hb91)
              replace RY := Aside0.mk (Kd.C_below RY.out hb91)
              replace HL := Aside0.mk (Kd.C_below HL.out hb91)
              replace HRR := Aside0.mk (Kd.C_below HRR.out hb91)
              replace HL2 := Aside0.mk (Kd.C_below HL2.out hb91)
              replace HRR2 := Aside0.mk (Kd.C_below HRR2.out hb91)
              clear hb91
              have qX0 : w91.cell? ⟨w.heap.size, 0, none⟩ = some (.int .i64 L) := (blk_cell X.out 0).trans rfl
              have qX1 : w91.cell? ⟨w.heap.size, 1, none⟩ = some (.int .i64 st) := (blk_cell X.out 1).trans rfl
              have qX2 : w91.cell? ⟨w.heap.size, 2, none⟩ = some (.slice A l.length c) := (blk_cell X.out 2).trans rfl
              have lX := blk_lt X.out
              have qXX0 : w91.cell? ⟨gX, 0, none⟩ = some (.int .i64 L) := (blk_cell XX.out 0).trans rfl
              have qXX1 : w91.cell? ⟨gX, 1, none⟩ = some (.int .i64 s2) := (blk_cell XX.out 1).trans rfl
              have qXX2 : w91.cell? ⟨gX, 2, none⟩ = some (.slice A9 l.length c9) := (blk_cell XX.out 2).trans rfl
              have lXX := blk_lt XX.out
              go_wp2_with fail
              refine (rankc_n L st A5 c5 xs (jn : Int) _ l.length HXL.out HC5.out.1 HC5.out.2).mono ?_
              rintro e w92 ⟨rfl, hb92⟩
              clear qX0 qX1 qX2 qXX0 qXX1 qXX2 lX lXX
              replace KB := Aside0.mk (KB.out.trans (hb92.mono KB.out.size))
              replace X := Aside0.mk (blk_below X.out hb92)
              replace XX := Aside0.mk (blk_below XX.out hb92)
              replace RY := Aside0.mk (Kd.C_below RY.out hb92)
              replace HL := Aside0.mk (Kd.C_below HL.out hb92)
              replace HRR := Aside0.mk (Kd.C_below HRR.out hb92)
              replace HL2 := Aside0.mk (Kd.C_below HL2.out hb92)
              replace HRR2 := Aside0.mk (Kd.C_below HRR2.out hb92)
              rw [HRA.out, HRB.out, HQ3.out]
              clear hb92
              have qX0 : w92.cell? ⟨w.heap.size, 0, none⟩ = some (.int .i64 L) := (blk_cell X.out 0).trans rfl
              have qX1 : w92.cell? ⟨w.heap.size, 1, none⟩ = some (.int .i64 st) := (blk_cell X.out 1).trans rfl
              have qX2 : w92.cell? ⟨w.heap.size, 2, none⟩ = some (.slice A l.length c) := (blk_cell X.out 2).trans rfl
              have lX := blk_lt X.out
              have qXX0 : w92.cell? ⟨gX, 0, none⟩ = some (.int .i64 L) := (blk_cell XX.out 0).trans rfl
              have qXX1 : w92.cell? ⟨gX, 1, none⟩ = some (.int .i64 s2) := (blk_cell XX.out 1).trans rfl
              have qXX2 : w92.cell? ⟨gX, 2, none⟩ = some (.slice A9 l.length c9) := (blk_cell XX.out 2).trans rfl
              have lXX := blk_lt XX.out
              go_wp2_with fail
              have NBC_X := Aside0.mk lX
              have NBC_XX := Aside0.mk lXX
              clear qX0 qX1 qX2 qXX0 qXX1 qXX2 lX lXX
              have BC := Aside0.mk (blk_new w92 (.cells #[.int .i64 ra, .int .i64 rb_] 28))
              have hb93 : Below w92.heap.size w92 (w92.alloc (.cells #[.int .i64 ra, .int .i64 rb_] 28)) := (Below.refl _ _).alloc (Nat.le_refl _) _
              replace KB := Aside0.mk (KB.out.trans (hb93.mono KB.out.size))
              replace X := Aside0.mk (blk_below X.out hb93)
              replace XX := Aside0.mk (blk_below XX.out hb93)
              replace RY := Aside0.mk (Kd.C_below RY.out hb93)
              replace HL := Aside0.mk (Kd.C_below HL.out hb93)
              replace HRR := Aside0.mk (Kd.C_below HRR.out hb93)
              replace HL2 := Aside0.mk (Kd.C_below HL2.out hb93)
              replace HRR2 := Aside0.mk (Kd.C_below HRR2.out hb93)
              clear hb93
              obtain ⟨gBC, hgBC⟩ : ∃ g, w92.heap.size = g := ⟨_, rfl⟩
              rw [hgBC] at BC NBC_X NBC_XX ⊢
              clear hgBC
              generalize w92.alloc (.cells #[.int .i64 ra, .int .i64 rb_] 28) = w93 at BC KB X XX RY HL HRR HL2 HRR2 ⊢
              have qX0 : w93.cell? ⟨w.heap.size, 0, none⟩ = some (.int .i64 L) := (blk_cell X.out 0).trans rfl
              have qX1 : w93.cell? ⟨w.heap.size, 1, none⟩ = some (.int .i64 st) := (blk_cell X.out 1).trans rfl
              have qX2 : w93.cell? ⟨w.heap.size, 2, none⟩ = some (.slice A l.length c) := (blk_cell X.out 2).trans rfl
              have lX := blk_lt X.out
              have qXX0 : w93.cell? ⟨gX, 0, none⟩ = some (.int .i64 L) := (blk_cell XX.out 0).trans rfl
              have qXX1 : w93.cell? ⟨gX, 1, none⟩ = some (.int .i64 s2) := (blk_cell XX.out 1).trans rfl
              have qXX2 : w93.cell? ⟨gX, 2, none⟩ = some (.slice A9 l.length c9) := (blk_cell XX.out 2).trans rfl
              have lXX := blk_lt XX.out
              have qBC0 : w93.cell? ⟨gBC, 0, none⟩ = some (.int .i64 ra) := (blk_cell BC.out 0).trans rfl
              have qBC1 : w93.cell? ⟨gBC, 1, none⟩ = some (.int .i64 rb_) := (blk_cell BC.out 1).trans rfl
              have lBC := blk_lt BC.out
              refine (stairs_n L s2 A9 c9 ys _ l.length HYL.out RY.out HC9.out (by omega) zs HZ.out l.length HZL.out).mono ?_
              rintro e w94 ⟨⟨A6, c6, rfl, HC6⟩, hb94⟩
              clear qX0 qX1 qX2 qXX0 qXX1 qXX2 qBC0 qBC1 lX lXX lBC
              replace KB := Aside0.mk (KB.out.trans (hb94.mono KB.out.size))
              replace X := Aside0.mk (blk_below X.out hb94)
              replace XX := Aside0.mk (blk_below XX.out hb94)
              replace RY := Aside0.mk (Kd.C_below RY.out hb94)
              replace HL := Aside0.mk (Kd.C_below HL.out hb94)
              replace HRR := Aside0.mk (Kd.C_below HRR.out hb94)
              replace HL2 := Aside0.mk (Kd.C_below HL2.out hb94)
              replace HRR2 := Aside0.mk (Kd.C_below HRR2.out hb94)
              replace BC := Aside0.mk (blk_below BC.out hb94)
              clear hb94
              have qX0 : w94.cell? ⟨w.heap.size, 0, none⟩ = some (.int .i64 L) := (blk_cell X.out 0).trans rfl
              have qX1 : w94.cell? ⟨w.heap.size, 1, none⟩ = some (.int .i64 st) := (blk_cell X.out 1).trans rfl
              have qX2 : w94.cell? ⟨w.heap.size, 2, none⟩ = some (.slice A l.length c) := (blk_cell X.out 2).trans rfl
              have lX := blk_lt X.out
              have qXX0 : w94.cell? ⟨gX, 0, none⟩ = some (.int .i64 L) := (blk_cell XX.out 0).trans rfl
              have qXX1 : w94.cell? ⟨gX, 1, none⟩ = some (.int .i64 s2) := (blk_cell XX.out 1).trans rfl
              have qXX2 : w94.cell? ⟨gX, 2, none⟩ = some (.slice A9 l.length c9) := (blk_cell XX.out 2).trans rfl
              have lXX := blk_lt XX.out
              have qBC0 : w94.cell? ⟨gBC, 0, none⟩ = some (.int .i64 ra) := (blk_cell BC.out 0).trans rfl
              have qBC1 : w94.cell? ⟨gBC, 1, none⟩ = some (.int .i64 rb_) := (blk_cell BC.out 1).trans rfl
              have lBC := blk_lt BC.out
              have ln1 := len69 (some adl) n0 n0 (by omega)
              go_wp2_with ((with_reducible show Oper.upon _ _ _ _ _ _); go_simp)
              clear ln1
              refine (rankc_n L s2 A6 c6 zs ((n0 : Int) - 1 - jn) _ l.length HZL.out HC6.out.1 HC6.out.2).mono ?_
              rintro e w95 ⟨rfl, hb95⟩
              clear qX0 qX1 qX2 qXX0 qXX1 qXX2 qBC0 qBC1 lX lXX lBC
              replace KB := Aside0.mk (KB.out.trans (hb95.mono KB.out.size))
              replace X := Aside0.mk (blk_below X.out hb95)
              replace XX := Aside0.mk (blk_below XX.out hb95)
              replace RY := Aside0.mk (Kd.C_below RY.out hb95)
              replace HL := Aside0.mk (Kd.C_below HL.out hb95)
              replace HRR := Aside0.mk (Kd.C_below HRR.out hb95)
              replace HL2 := Aside0.mk (Kd.C_below HL2.out hb95)
              replace HRR2 := Aside0.mk (Kd.C_below HRR2.out hb95)
              replace BC := Aside0.mk (blk_below BC.out hb95)
              rw [HQ1.out, HQ2.out]
              clear hb95
              have qX0 : w95.cell? ⟨w.heap.size, 0, none⟩ = some (.int .i64 L) := (blk_cell X.out 0).trans rfl
              have qX1 : w95.cell? ⟨w.heap.size, 1, none⟩ = some (.int .i64 st) := (blk_cell X.out 1).trans rfl
              have qX2 : w95.cell? ⟨w.heap.size, 2, none⟩ = some (.slice A l.length c) := (blk_cell X.out 2).trans rfl
              have lX := blk_lt X.out
              have qXX0 : w95.cell? ⟨gX, 0, none⟩ = some (.int .i64 L) := (blk_cell XX.out 0).trans rfl
              have qXX1 : w95.cell? ⟨gX, 1, none⟩ = some (.int .i64 s2) := (blk_cell XX.out 1).trans rfl
              have qXX2 : w95.cell? ⟨gX, 2, none⟩ = some (.slice A9 l.length c9) := (blk_cell XX.out 2).trans rfl
              have lXX := blk_lt XX.out
              have qBC0 : w95.cell? ⟨gBC, 0, none⟩ = some (.int .i64 ra) := (blk_cell BC.out 0).trans rfl
              have qBC1 : w95.cell? ⟨gBC, 1, none⟩ = some (.int .i64 rb_) := (blk_cell BC.out 1).trans rfl
              have lBC := blk_lt BC.out
              go_wp2_with fail
              go_roundw
              case rel => exact ⟨jn + 1, by omega, by go_num, ⟨KB.out.alloc KB.out.size _⟩, ⟨blk_alloc X.out _⟩, ⟨blk_alloc XX.out _⟩, ⟨Kd.C_alloc RY.out _⟩, ⟨Kd.C_alloc HL.out _⟩, ⟨Kd.C_alloc HRR.out _⟩, ⟨Kd.C_alloc HL2.out _⟩, ⟨Kd.C_alloc HRR2.out _⟩⟩
              case measure => simp [intOf]; omega
            · have hj6 : decide ((jn : Int) < (n0 : Int)) = false := decide_eq_false (by omega)
              go_wp2_with fail
              refine (awake_calls _).mono ?_
              rintro e w96 ⟨rfl, hb96⟩
              replace KB := Aside0.mk (KB.out.trans (hb96.mono KB.out.size))
              clear hb96
              go_wp2_with fail
              go_ret
              exact ⟨rfl, KB.out⟩
end Go.Proofs.Ytkglggggmlnleaa.Print
