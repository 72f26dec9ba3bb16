/- The span of the middles. -/
import Derived.Test.YtkglggggmlnleaaMd
import Derived.Test.YtkglggggmlnleaaHs
namespace Go.Proofs.Ytkglggggmlnleaa.Print
open Go.RowKit Go.Shelf Go.Proofs.YtkglggggmlnleaaW.PrintWords Go.Proofs.YtkglggggmlnleaaW.PrintLast Go.Proofs.YtkglggggmlnleaaW.PrintMore
set_option linter.unusedVariables false
set_option linter.unusedSimpArgs false
attribute [local go_sem] Oper.semAt_some
def f18.T9 : Bool × List (List Nat × List Nat) := (true, [([], []), ([0], [0]), ([], []), ([1, 2], [1, 2]), ([3], [3]), ([], []), ([5], [5]), ([], []), ([6, 7], [6, 7]), ([8, 4], [8]), ([4, 9], [4, 9]), ([10, 9, 0, 1, 2, 3, 4, 5, 6, 7, 8, 9, 10], [10])])
def f18.B9 : List Nat := [0, 1, 0, 7, 15, 0, 32, 0, 224, 511, 1023, 2047]
theorem f18.tab9 : rtab .any (opsOf Try.f18 9) = f18.T9 := by kernel_rfl
theorem f18.bits9 : waitsOk f18.T9.2 f18.B9 = true := by kernel_rfl
section
variable {P : Program} {ops : Array Oper} {o : Oper} {a : Act} {Kc : Act → World → Prop} {Q : Exit → Act → World → Prop}
/-- Two cells into a new slice. -/
theorem slice2_step {W : World} (hw : Region.wanted o (yielded ops a.tmps) = true) {N : Tmp} (_hd : o.dst = some N) {x y : Value} {t : TypeId}
    (hrun : (execOp a.eval o).run P W = .ok (.value (.slice (some ⟨W.heap.size, 0, none⟩) 2 2)) (W.alloc (.cells #[x, y] t (0, 0))))
    (h : ∀ g w1, w1.heap[g]? = some (.cells #[x, y] t (0, 0)) → Below W.heap.size W w1 → Kc (a.put o.dst (.slice (some ⟨g, 0, none⟩) 2 2)) w1) : if Region.wanted o (yielded ops a.tmps) = true then Oper.wp P o a W Kc Q else Kc (a.put o.dst undef) W :=
  event_step hw hrun (h _ _ (blk_new W _) (below_alloc (Below.refl _ _) _))
end
theorem C2 {w : World} {g : Nat} {a b : Int} (h : w.heap[g]? = some (.cells #[.int .i64 a, .int .i64 b] 3 (0, 0))) : Kd.C (Kd.int .i64) w (some ⟨g, 0, none⟩) 2 [a, b] := by
  refine ⟨rfl, by omega, fun _ => ⟨_, rfl, fun j p hj => ⟨[.int .i64 p], rfl, rfl, fun i u hi => ?_⟩⟩⟩
  match j, i, hj, hi with
  | 0, 0, hj, hi => simp at hj hi; subst hj; subst hi; exact (blk_cell h 0).trans rfl
  | 1, 0, hj, hi => simp at hj hi; subst hj; subst hi; exact (blk_cell h 1).trans rfl
  | 0, i + 1, hj, hi => simp at hi
  | 1, i + 1, hj, hi => simp at hi
  | j + 2, i, hj, hi => simp at hj
theorem hists_mem (L : Int) : ∀ (xs : List S67) (l : Int) (h : List (Int × Int)), 0 ≤ l → l < L → h ∈ hists L l xs → ∀ p ∈ h, (0 ≤ p.1 ∧ p.1 ≤ 2) ∧ 0 ≤ p.2 ∧ p.2 < L
  | [], l, h, _, _, hm, p, hp => by simp [hists] at hm; subst hm; simp at hp
  | x :: xs, l, h, h0, h1, hm, p, hp => by
    simp only [hists, List.mem_flatMap] at hm
    obtain ⟨r, hr, hm⟩ := hm
    split at hm
    · obtain ⟨h', hm', rfl⟩ := List.mem_map.1 hm
      have hn := nxt_range (L := L) (l := l) (r := r) h0 h1
      rcases List.mem_cons.1 hp with rfl | hp
      · simp at hr
        refine ⟨?_, h0, h1⟩
        rcases hr with rfl | rfl | rfl <;> simp
      · exact hists_mem L xs _ h' hn.1 hn.2 hm' p hp
    · simp at hm
theorem hcells_one (L st : Int) (A : Option Addr) (n c : Nat) (h : List (Int × Int)) : (hcells L st A n c h).toArray.all (·.oneCell') = true := by
  rw [Array.all_eq_true_iff_forall_mem]
  intro v hv
  simp only [List.mem_toArray, hcells, List.mem_append, List.mem_cons, List.mem_map, List.not_mem_nil, or_false] at hv
  rcases hv with ((rfl | rfl | rfl) | ⟨x, _, rfl⟩) | ⟨x, _, rfl⟩ <;> rfl

def mids (hs : List (List (Int × Int))) : List Int := hs.filterMap fun h => if (midI h).2 then some (midI h).1 else none
def sp : List Int → Int × Int
  | [] => (0, 0)
  | m :: r => r.foldl (fun p n => (min p.1 n, max p.2 n)) (m, m)
theorem sp_one (n : Int) : sp [n] = (n, n) := rfl
theorem sp_snoc {ms : List Int} (h : ms ≠ []) (n : Int) : sp (ms ++ [n]) = (min (sp ms).1 n, max (sp ms).2 n) := by
  cases ms with
  | nil => exact absurd rfl h
  | cons m r => simp [sp, List.foldl_append]
def midE (L st : Int) (l : List S67) : Int := if possI L st l = 0 then (if mids (hists L st l) = [] then 7 else 0) else possI L st l
def midR (L st : Int) (l : List S67) : Int × Int := if midE L st l = 0 then sp (mids (hists L st l)) else (0, 0)

set_option maxHeartbeats 4000000 in
set_option maxRecDepth 100000 in
theorem middle_calls (L st : Int) (A : Option Addr) (c : Nat) (l : List S67) (w : World) (hr : Kd.C k67 w A l.length l) (hc : l.length ≤ c) :
    Calls Try.prog 18 #[.agg #[.int .i64 L, .int .i64 st, .slice A l.length c]] w fun e w' => e = .returned (.tuple #[.agg #[.int .i64 (midR L st l).1, .int .i64 (midR L st l).2], .int .i64 (midE L st l)]) ∧ Below w.heap.size w w' := by
  have hu34 := Try.underlying34
  have hu28 := Try.underlying28
  have HR := Aside0.mk hr
  have HC := Aside0.mk hc
  clear hr hc
  refine (callsIn_wide (n := 0)).1 ?_
  refine callsIn_of_wp_marks Try.func18 rfl trivial ?_ rfl
  simp only [Try.ntmps18, List.size_toArray, List.length_cons, List.length_nil, Nat.reduceAdd, Nat.reduceSub, Array.replicate_succ, Array.replicate_zero, List.push_toArray, List.append_toArray, List.nil_append, List.cons_append]
  have HB1 : Aside0 (Below w.heap.size w ((w.alloc (.cells #[.int .i64 L, .int .i64 st, .slice A l.length c] 34)).alloc (.cells #[.int .i64 0, .int .i64 0] 28))) := ⟨((Below.refl _ w).alloc (by simp) _).alloc (by simp) _⟩
  have HBX : Aside0 (((w.alloc (.cells #[.int .i64 L, .int .i64 st, .slice A l.length c] 34)).alloc (.cells #[.int .i64 0, .int .i64 0] 28)).heap[w.heap.size]? = some (.cells #[.int .i64 L, .int .i64 st, .slice A l.length c] 34 (0, 0))) := ⟨blk_alloc (new_at rfl) _⟩
  have HBY : Aside0 (((w.alloc (.cells #[.int .i64 L, .int .i64 st, .slice A l.length c] 34)).alloc (.cells #[.int .i64 0, .int .i64 0] 28)).heap[w.heap.size + 1]? = some (.cells #[.int .i64 0, .int .i64 0] 28 (0, 0))) := ⟨new_at (by simp)⟩
  gi_wp2_with fail
  refine ⟨trivial, rfl, (callsIn_wide.2 (possible_calls L st A c l _ (Kd.C_below HR.out HB1.out) HC.out)).mono ?_⟩
  rintro e w2 ⟨rfl, hb2⟩
  have HB2 := Aside0.mk (HB1.out.trans (hb2.mono HB1.out.size))
  have HBX2 := Aside0.mk (blk_below HBX.out hb2)
  have HBY2 := Aside0.mk (blk_below HBY.out hb2)
  clear hb2 HB1 HBX HBY
  have q0 : w2.cell? ⟨w.heap.size, 0, none⟩ = some (.int .i64 L) := (blk_cell HBX2.out 0).trans rfl
  have q1 : w2.cell? ⟨w.heap.size, 1, none⟩ = some (.int .i64 st) := (blk_cell HBX2.out 1).trans rfl
  have q2 : w2.cell? ⟨w.heap.size, 2, none⟩ = some (.slice A l.length c) := (blk_cell HBX2.out 2).trans rfl
  have q3 : w2.cell? ⟨w.heap.size + 1, 0, none⟩ = some (.int .i64 0) := (blk_cell HBY2.out 0).trans rfl
  have q3b : w2.cell? ⟨w.heap.size + 1, 1, none⟩ = some (.int .i64 0) := (blk_cell HBY2.out 1).trans rfl
  have q4 := blk_frozen HBY2.out 0
  have q5 := blk_frozen HBY2.out 1
  have q6 := blk_lt HBX2.out
  have q7 := blk_lt HBY2.out
  obtain ⟨ck, hck⟩ : ∃ ck, possI L st l = ck := ⟨_, rfl⟩
  rw [hck]
  have HCK := Aside0.mk hck
  clear hck
  by_cases h0 : ck = 0
  · subst h0
    gi_wp2_with fail
    have HBX2' := Aside0.mk (blk_alloc (blk_alloc HBX2.out (.cells #[.int .i64 0, .int .i64 0] 28)) (.cells #[.bool false] 4))
    have HBY2' := Aside0.mk (blk_alloc (blk_alloc HBY2.out (.cells #[.int .i64 0, .int .i64 0] 28)) (.cells #[.bool false] 4))
    have HB2' : Aside0 (Below w.heap.size w ((w2.alloc (.cells #[.int .i64 0, .int .i64 0] 28)).alloc (.cells #[.bool false] 4))) := ⟨(HB2.out.alloc (by omega) _).alloc (by simp; omega) _⟩
    have HBO2 : Aside0 (((w2.alloc (.cells #[.int .i64 0, .int .i64 0] 28)).alloc (.cells #[.bool false] 4)).heap[w2.heap.size]? = some (.cells #[.int .i64 0, .int .i64 0] 28 (0, 0))) := ⟨blk_alloc (new_at rfl) _⟩
    have HBF2 : Aside0 (((w2.alloc (.cells #[.int .i64 0, .int .i64 0] 28)).alloc (.cells #[.bool false] 4)).heap[w2.heap.size + 1]? = some (.cells #[.bool false] 4 (0, 0))) := ⟨new_at (by simp)⟩
    obtain ⟨bo, hbo⟩ : ∃ bo, w2.heap.size = bo := ⟨_, rfl⟩
    have hz2 : ((w2.alloc (.cells #[.int .i64 0, .int .i64 0] 28)).alloc (.cells #[.bool false] 4)).heap.size = bo + 2 := by simp [hbo]
    rw [hbo] at HBO2 HBF2 q6 q7 ⊢
    clear HB2 HBX2 HBY2 q0 q1 q2 q3 q3b q4 q5 hbo
    generalize ((w2.alloc (.cells #[.int .i64 0, .int .i64 0] 28)).alloc (.cells #[.bool false] 4)) = w2' at HBX2' HBY2' HB2' HBO2 HBF2 hz2 ⊢
    refine ⟨trivial, rfl, (callsIn_wide.2 (histories_calls L st A c l _ (Kd.C_below HR.out HB2'.out) HC.out)).mono ?_⟩
    rintro e w3 ⟨bs, bm, bk, bc, km, rfl, hI, hb3, hg1, hg2, hg3, hg4, hg5⟩
    rw [hz2] at hg1 hg2 hg3 hg4 hg5
    gi_wp2_with fail
    have HI := Aside0.mk hI
    have HBY3 := Aside0.mk (blk_below HBY2'.out hb3)
    have HBO3 := Aside0.mk (blk_below HBO2.out hb3)
    have HBF3 := Aside0.mk (blk_below HBF2.out hb3)
    have HB3 := Aside0.mk (HB2'.out.trans (hb3.mono (by omega)))
    have hlt3 := blk_lt HBF3.out
    clear hI hb3 HBX2' HBY2' HBO2 HBF2
    obtain ⟨hck, hne⟩ := poss_ok HCK.out
    obtain ⟨k1, k2, k3, k4, k5⟩ := check_ok hck
    have hAd : ∀ ad, A = some ad → 0 < l.length → ad.block < w.heap.size := fun ad e h => C67_lt HR.out e h
    have HMEM : Aside0 (∀ (pre : List (List (Int × Int))) (x : List (Int × Int)), pre ++ [x] <+: hists L st l → ∀ p ∈ x, (0 ≤ p.1 ∧ p.1 ≤ 2) ∧ 0 ≤ p.2 ∧ p.2 ≤ 8) :=
      ⟨fun pre x h p hp => by
        have := hists_mem L l st x k3 k4 (h.subset (by simp)) p hp
        exact ⟨this.1, this.2.1, by omega⟩⟩
    refine wpIn_hist L st A c l bs bm bk bc km rfl k1 k2 k3 k4 k5 HI.out (fun b => b = bo ∨ b = bo + 1) (by rintro b (rfl | rfl) <;> exact ⟨by omega, by omega, by omega, by omega, by omega, by omega, fun ad e h => by have := hAd ad e h; omega⟩)
      (fun pre W => W.heap[bo]? = some (.cells #[.int .i64 (sp (mids pre)).1, .int .i64 (sp (mids pre)).2] 28 (0, 0)) ∧ W.heap[bo + 1]? = some (.cells #[.bool !(mids pre).isEmpty] 4 (0, 0))) (fun k pre W => False)
      (fun pre W W' hr hk => ⟨(hk _ (by omega) (by omega)).trans hr.1, (hk _ hlt3 (by omega)).trans hr.2⟩) (fun k pre W W' hr hk => hr) ⟨HBO3.out, HBF3.out⟩
      (fun x a' W => ∃ bx, a' = { tmps := #[.agg #[.int .i64 L, .int .i64 st, .slice A l.length c], .pointer (some ⟨w.heap.size, 0, none⟩), .pointer (some ⟨w.heap.size + 1, 0, none⟩), .int .i64 0, .int .i64 0, .pointer (some ⟨bo, 0, none⟩), .pointer (some ⟨bo + 1, 0, none⟩), .pointer (some ⟨bx, 0, none⟩), undef, undef, .agg #[.int .i64 L, .int .i64 st, .slice A l.length c], .int .i64 0, .int .i64 0, .bool false, undef, undef, .agg #[.int .i64 L, .int .i64 st, .slice A l.length c], .func (.func 69) #[] #[.pointer (some ⟨bs, 0, none⟩), .pointer (some ⟨bm, 0, none⟩), .pointer (some ⟨bc, 0, none⟩)], hval L st A l.length c x, undef, undef, undef, undef, undef, undef, undef, undef, undef, undef, undef, undef, undef, undef, undef, undef, undef, undef, undef, undef, undef, undef, undef, undef, undef, undef, undef, undef, undef], defers := [] } ∧ w3.heap.size + 1 < bx ∧ W.heap[bx]? = some (.cells (hcells L st A l.length c x).toArray 88 (0, 0))) ?ax ?assign ?body ?done ?stop
    case ax =>
      rintro x a' W o ⟨bx, rfl, hb, hx⟩
      exact ⟨bx, rfl, hb, (World.putObj_heap_other (by omega)).trans hx⟩
    case assign =>
      intro x W m K hlt hx hK
      obtain ⟨v, hv⟩ : ∃ v, hval L st A l.length c x = v := ⟨_, rfl⟩
      have HV := Aside0.mk hv
      have HK := Aside0.mk hK
      rw [hv]
      clear hv hK
      gi_wp2_with (refine storeNewIn_ (fun _ => trivial) 88 (.tmp 7) (.tmp 18) rfl rfl rfl (by simp [Act.eval]) (by rw [← HV.out]; rfl) (by rw [size88]; simp [hcells_len L st A l.length c x (by omega)]) (by simp [hcells_len L st A l.length c x (by omega)]) (hcells_one ..) ?_; intro w5 hw5 hb5 hz5; have HW5 := Aside0.mk hw5; have HB5 := Aside0.mk hb5; clear hw5 hb5 hz5)
      refine HK.out _ _ HB5.out ⟨W.heap.size, ?_, hlt, HW5.out⟩
      rw [← HV.out]
    case body =>
      rintro pre x a' W m hlt hch hcell ⟨bx, rfl, hbx, hrow⟩ hpre hx
      obtain ⟨v, hv⟩ : ∃ v, hval L st A l.length c x = v := ⟨_, rfl⟩
      have HV := Aside0.mk hv
      rw [hv]
      have HROW := Aside0.mk hrow
      have HCELL := Aside0.mk hcell
      have HX := Aside0.mk hx
      have HPRE := Aside0.mk hpre
      clear hv hrow hcell hx hpre
      gi_wp2_with (refine gateIn_dst (N := 20) rfl ?_; refine load_rowIn (fun _ => trivial) 88 (.tmp 7) rfl rfl bx rfl 88 _ (0, 0) _ HROW.out Try.underlying88 rfl (by rw [size88, hcells_size (by have := HX.out; omega)]) ?_; rw [show Value.agg (hcells L st A l.length c x).toArray = v from HV.out])
      have hvx : hval L st A x.length c x = v := by rw [HX.out]; exact HV.out
      rw [← hvx]
      refine ⟨trivial, fun hd => by simp [Fence.wide] at hd, (CallsIn.of_calls (ro := some _) (mid_calls L st A c x W (by have := HX.out; omega) (HMEM.out pre x HPRE.out))).mono ?_⟩
      rw [hvx]
      clear hvx
      rintro e W2 ⟨rfl, hb2⟩
      have HC2 := Aside0.mk (And.intro (blk_below HCELL.out.1 hb2) (blk_below HCELL.out.2 hb2))
      have HBW := Aside0.mk hb2
      clear hb2
      obtain ⟨⟨mn, mis⟩, hmi⟩ : ∃ mi, midI x = mi := ⟨_, rfl⟩
      rw [hmi]
      have HMI := Aside0.mk hmi
      clear hmi
      have hms : mids (pre ++ [x]) = mids pre ++ if mis then [mn] else [] := by
        unfold mids
        rw [List.filterMap_append]
        congr 1
        simp only [List.filterMap_cons, List.filterMap_nil, HMI.out]
        cases mis <;> rfl
      have HMS := Aside0.mk hms
      clear hms
      obtain ⟨lo, hlo⟩ : ∃ lo, (sp (mids pre)).1 = lo := ⟨_, rfl⟩
      obtain ⟨hi, hhi⟩ : ∃ hi, (sp (mids pre)).2 = hi := ⟨_, rfl⟩
      obtain ⟨fb, hfb⟩ : ∃ fb, (!(mids pre).isEmpty) = fb := ⟨_, rfl⟩
      rw [hlo, hhi, hfb] at HC2
      have HLO := Aside0.mk (And.intro hlo (And.intro hhi hfb))
      clear hlo hhi hfb
      have p0 : W2.cell? ⟨bo, 0, none⟩ = some (.int .i64 lo) := (blk_cell HC2.out.1 0).trans rfl
      have p1 : W2.cell? ⟨bo, 1, none⟩ = some (.int .i64 hi) := (blk_cell HC2.out.1 1).trans rfl
      have p2 : W2.cell? ⟨bo + 1, 0, none⟩ = some (.bool fb) := (blk_cell HC2.out.2 0).trans rfl
      have p3 := blk_frozen HC2.out.1 0
      have p4 := blk_frozen HC2.out.1 1
      have p5 := blk_frozen HC2.out.2 0
      cases mis with
      | false =>
        gi_wp2_with fail
        refine ⟨.of_below HBW.out, ?_⟩
        show _ ∧ _
        rw [HMS.out]
        simp only [Bool.false_eq_true, if_false, List.append_nil]
        rw [HLO.out.1, HLO.out.2.1, HLO.out.2.2]
        exact HC2.out
      | true =>
        cases fb with
        | false =>
          gi_wp2_with fail
          have hnil : mids pre = [] := by have := HLO.out.2.2; simpa using this
          refine ⟨(((Ch.of_below HBW.out).setCell _ _ (fun _ => .inl rfl)).setCell _ _ (fun _ => .inl rfl)).setCell _ _ (fun _ => .inr rfl), ?_⟩
          show _ ∧ _
          rw [HMS.out, hnil]
          refine ⟨?_, ?_⟩
          · exact blk_far (blk_put (blk_put HC2.out.1 0 _ rfl) 1 _ rfl) (by show bo ≠ bo + 1; omega) _
          · exact blk_put (blk_far (blk_far HC2.out.2 (by show bo + 1 ≠ bo; omega) _) (by show bo + 1 ≠ bo; omega) _) 0 _ rfl
        | true =>
          gi_wp2_with fail
          have hl0 := blk_lt HC2.out.1
          have HP := Aside0.mk (And.intro hl0 (And.intro p0 (And.intro p1 (And.intro p3 p4))))
          clear p0 p1 p2 p3 p4 p5
          refine startRd_ (n := 12) (S := (Below W2.heap.size W2)) (ds := [11]) #[false, false, false, false, false, false, false, false, false, false, false, false] (by kernel_rfl) rfl rfl ((Below.refl _ _).drew) rfl (fun hHeld => ?_)
          refine with_tabW f18.tab9 f18.bits9 (fun HT_ HW_ => ?_)
          refine take_ (i := 0) (N := some 24) (v := ?_) (a' := ?_) #[true, false, false, false, false, false, false, false, false, false, false, false] rfl rfl (take_ofW HT_.out HW_.out (by kernel_rfl)) (fun _ _ _ h => h) (Or.inl ⟨by rfl, ?_⟩) hHeld ?_ ?_
          rotate_left
          · rintro w' hS
            have s0 := (hS.cell (p := ⟨bo, 0, none⟩) HP.out.1).trans HP.out.2.1
            have s1 := (hS.cell (p := ⟨bo, 1, none⟩) HP.out.1).trans HP.out.2.2.1
            clear hS
            go_simp
            with_reducible rfl
          rotate_left
          · simp only [Act.put, List.setIfInBounds_toArray, List.set_cons_zero, List.set_cons_succ, i64_w, i32_w]
            rfl
          refine take_ (i := 1) (N := some 25) (v := ?_) (a' := ?_) #[true, true, false, false, false, false, false, false, false, false, false, false] rfl rfl (take_ofW HT_.out HW_.out (by kernel_rfl)) (fun _ _ _ h => h) (Or.inl ⟨by rfl, ?_⟩) hHeld ?_ ?_
          rotate_left
          · rintro w' hS
            have s0 := (hS.cell (p := ⟨bo, 0, none⟩) HP.out.1).trans HP.out.2.1
            have s1 := (hS.cell (p := ⟨bo, 1, none⟩) HP.out.1).trans HP.out.2.2.1
            clear hS
            go_simp
            with_reducible rfl
          rotate_left
          · simp only [Act.put, List.setIfInBounds_toArray, List.set_cons_zero, List.set_cons_succ, i64_w, i32_w]
            rfl
          refine take_ (i := 2) (N := some 26) (v := ?_) (a' := ?_) #[true, true, true, false, false, false, false, false, false, false, false, false] rfl rfl (take_ofW HT_.out HW_.out (by kernel_rfl)) (fun _ _ _ h => h) (Or.inl ⟨by rfl, ?_⟩) hHeld ?_ ?_
          rotate_left
          · rintro w' hS
            have s0 := (hS.cell (p := ⟨bo, 0, none⟩) HP.out.1).trans HP.out.2.1
            have s1 := (hS.cell (p := ⟨bo, 1, none⟩) HP.out.1).trans HP.out.2.2.1
            clear hS
            go_simp
            with_reducible rfl
          rotate_left
          · simp only [Act.put, List.setIfInBounds_toArray, List.set_cons_zero, List.set_cons_succ, i64_w, i32_w]
            rfl
          refine take_ (i := 5) (N := some 29) (v := ?_) (a' := ?_) #[true, true, true, false, false, true, false, false, false, false, false, false] rfl rfl (take_ofW HT_.out HW_.out (by kernel_rfl)) (fun _ _ _ h => h) (Or.inl ⟨by rfl, ?_⟩) hHeld ?_ ?_
          rotate_left
          · rintro w' hS
            have s0 := (hS.cell (p := ⟨bo, 0, none⟩) HP.out.1).trans HP.out.2.1
            have s1 := (hS.cell (p := ⟨bo, 1, none⟩) HP.out.1).trans HP.out.2.2.1
            clear hS
            go_simp
            with_reducible rfl
          rotate_left
          · simp only [Act.put, List.setIfInBounds_toArray, List.set_cons_zero, List.set_cons_succ, i64_w, i32_w]
            rfl
          refine take_ (i := 6) (N := some 30) (v := ?_) (a' := ?_) #[true, true, true, false, false, true, true, false, false, false, false, false] rfl rfl (take_ofW HT_.out HW_.out (by kernel_rfl)) (fun _ _ _ h => h) (Or.inl ⟨by rfl, ?_⟩) hHeld ?_ ?_
          rotate_left
          · rintro w' hS
            have s0 := (hS.cell (p := ⟨bo, 0, none⟩) HP.out.1).trans HP.out.2.1
            have s1 := (hS.cell (p := ⟨bo, 1, none⟩) HP.out.1).trans HP.out.2.2.1
            clear hS
            go_simp
            with_reducible rfl
          rotate_left
          · simp only [Act.put, List.setIfInBounds_toArray, List.set_cons_zero, List.set_cons_succ, i64_w, i32_w]
            rfl
          refine take_ (i := 7) (N := some 31) (v := ?_) (a' := ?_) #[true, true, true, false, false, true, true, true, false, false, false, false] rfl rfl (take_ofW HT_.out HW_.out (by kernel_rfl)) (fun _ _ _ h => h) (Or.inl ⟨by rfl, ?_⟩) hHeld ?_ ?_
          rotate_left
          · rintro w' hS
            have s0 := (hS.cell (p := ⟨bo, 0, none⟩) HP.out.1).trans HP.out.2.1
            have s1 := (hS.cell (p := ⟨bo, 1, none⟩) HP.out.1).trans HP.out.2.2.1
            clear hS
            go_simp
            with_reducible rfl
          rotate_left
          · simp only [Act.put, List.setIfInBounds_toArray, List.set_cons_zero, List.set_cons_succ, i64_w, i32_w]
            rfl
          refine join_ (σ := Nat × Nat) 3 #[true, true, true, true, true, true, true, true, true, false, false, false] (fun s_ => [(27, .slice (some ⟨s_.1, 0, none⟩) 2 2), (28, .int .i64 (min lo mn)), (32, .slice (some ⟨s_.2, 0, none⟩) 2 2)]) (fun s_ w' => Below W2.heap.size W2 w' ∧ Kd.C (Kd.int .i64) w' (some ⟨s_.2, 0, none⟩) 2 [hi, mn]) ?_ ?_
          rotate_left
          · intro hCont
            refine two_ (i := 3) (j := 8) (Ni := some 27) (Nj := some 32) #[true, true, true, true, false, true, true, true, false, false, false, false] #[true, true, true, false, false, true, true, true, true, false, false, false] rfl rfl rfl rfl (two_of HT_.out (by kernel_rfl)) (by decide) (by decide) (fun K hK => ?_) (fun K hK => ?_)
            · refine slice2_step ?hg (N := 27) ?hd (x := .int .i64 lo) (y := .int .i64 mn) (t := 3) ?hr ?_; (case hd => rfl); (case hg => rfl); (case hr => first | (go_simp; done) | (go_simp; rfl))
              intro g1 w26 hbx hb
              have HG1 := Aside0.mk (C2 hbx)
              refine hK.out _ _ (hHeld.trans (hb.mono hHeld.size)) ?_
              clear hHeld hbx hb
              intro hHeld
              clear hK K
              refine norm_ (a' := ?_) ?_ ?_
              rotate_left
              · show Act.put _ (some 27) _ = _
                simp only [Act.put, List.setIfInBounds_toArray, List.set_cons_zero, List.set_cons_succ, i64_w, i32_w]
                rfl
              refine two_ (i := 4) (j := 8) (Ni := some 28) (Nj := some 32) #[true, true, true, true, true, true, true, true, false, false, false, false] #[true, true, true, true, false, true, true, true, true, false, false, false] rfl rfl rfl rfl (two_of HT_.out (by kernel_rfl)) (by decide) (by decide) (fun K hK => ?_) (fun K hK => ?_)
              · refine goes_ Try.func48 (by kernel_rfl) rfl #[.slice (some ⟨g1, 0, none⟩) 2 2] (by rfl) rfl rfl (by (try simp only [List.map_toArray, List.map_cons, List.map_nil]); first | done | rfl) ?_
                refine (stair_least.calls 3 (some ⟨g1, 0, none⟩) 2 [lo, mn] _ _ HG1.out (by simp) (least2 lo mn)).mono ?_
                rintro e w27 ⟨rfl, hb⟩
                refine ⟨_, rfl, hK.out _ _ (hHeld.trans (hb.mono hHeld.size)) ?_⟩
                clear hHeld hb
                intro hHeld
                clear hK K
                refine norm_ (a' := ?_) ?_ ?_
                rotate_left
                · show Act.put _ (some 28) _ = _
                  simp only [Act.put, List.setIfInBounds_toArray, List.set_cons_zero, List.set_cons_succ, i64_w, i32_w]
                  rfl
                refine one_ (i := 8) (N := some 32) #[true, true, true, true, true, true, true, true, true, false, false, false] rfl rfl (one_of HT_.out (by kernel_rfl)) (by decide) (fun K hK => ?_)
                refine slice2_step ?hg (N := 32) ?hd (x := .int .i64 hi) (y := .int .i64 mn) (t := 3) ?hr ?_; (case hd => rfl); (case hg => rfl); (case hr => first | (go_simp; done) | (go_simp; rfl))
                intro g2 w26 hbx hb
                have HG2 := Aside0.mk (C2 hbx)
                refine hK.out _ _ (hHeld.trans (hb.mono hHeld.size)) ?_
                clear hHeld hbx hb
                intro hHeld
                clear hK K
                refine norm_ (a' := ?_) ?_ ?_
                rotate_left
                · show Act.put _ (some 32) _ = _
                  simp only [Act.put, List.setIfInBounds_toArray, List.set_cons_zero, List.set_cons_succ, i64_w, i32_w]
                  rfl
                exact norm_ (by simp only [putAll, Act.put, List.setIfInBounds_toArray, List.set_cons_zero, List.set_cons_succ]) (hCont (g1, g2) _ ⟨hHeld, HG2.out⟩)
              · refine slice2_step ?hg (N := 32) ?hd (x := .int .i64 hi) (y := .int .i64 mn) (t := 3) ?hr ?_; (case hd => rfl); (case hg => rfl); (case hr => first | (go_simp; done) | (go_simp; rfl))
                intro g2 w26 hbx hb
                have HG2 := Aside0.mk (C2 hbx)
                replace HG1 := Aside0.mk (Kd.C_below HG1.out hb)
                refine hK.out _ _ (hHeld.trans (hb.mono hHeld.size)) ?_
                clear hHeld hbx hb
                intro hHeld
                clear hK K
                refine norm_ (a' := ?_) ?_ ?_
                rotate_left
                · show Act.put _ (some 32) _ = _
                  simp only [Act.put, List.setIfInBounds_toArray, List.set_cons_zero, List.set_cons_succ, i64_w, i32_w]
                  rfl
                refine one_ (i := 4) (N := some 28) #[true, true, true, true, true, true, true, true, true, false, false, false] rfl rfl (one_of HT_.out (by kernel_rfl)) (by decide) (fun K hK => ?_)
                refine goes_ Try.func48 (by kernel_rfl) rfl #[.slice (some ⟨g1, 0, none⟩) 2 2] (by rfl) rfl rfl (by (try simp only [List.map_toArray, List.map_cons, List.map_nil]); first | done | rfl) ?_
                refine (stair_least.calls 3 (some ⟨g1, 0, none⟩) 2 [lo, mn] _ _ HG1.out (by simp) (least2 lo mn)).mono ?_
                rintro e w27 ⟨rfl, hb⟩
                replace HG2 := Aside0.mk (Kd.C_below HG2.out hb)
                refine ⟨_, rfl, hK.out _ _ (hHeld.trans (hb.mono hHeld.size)) ?_⟩
                clear hHeld hb
                intro hHeld
                clear hK K
                refine norm_ (a' := ?_) ?_ ?_
                rotate_left
                · show Act.put _ (some 28) _ = _
                  simp only [Act.put, List.setIfInBounds_toArray, List.set_cons_zero, List.set_cons_succ, i64_w, i32_w]
                  rfl
                exact norm_ (by simp only [putAll, Act.put, List.setIfInBounds_toArray, List.set_cons_zero, List.set_cons_succ]) (hCont (g1, g2) _ ⟨hHeld, HG2.out⟩)
            · refine slice2_step ?hg (N := 32) ?hd (x := .int .i64 hi) (y := .int .i64 mn) (t := 3) ?hr ?_; (case hd => rfl); (case hg => rfl); (case hr => first | (go_simp; done) | (go_simp; rfl))
              intro g2 w26 hbx hb
              have HG2 := Aside0.mk (C2 hbx)
              refine hK.out _ _ (hHeld.trans (hb.mono hHeld.size)) ?_
              clear hHeld hbx hb
              intro hHeld
              clear hK K
              refine norm_ (a' := ?_) ?_ ?_
              rotate_left
              · show Act.put _ (some 32) _ = _
                simp only [Act.put, List.setIfInBounds_toArray, List.set_cons_zero, List.set_cons_succ, i64_w, i32_w]
                rfl
              refine one_ (i := 3) (N := some 27) #[true, true, true, true, false, true, true, true, true, false, false, false] rfl rfl (one_of HT_.out (by kernel_rfl)) (by decide) (fun K hK => ?_)
              refine slice2_step ?hg (N := 27) ?hd (x := .int .i64 lo) (y := .int .i64 mn) (t := 3) ?hr ?_; (case hd => rfl); (case hg => rfl); (case hr => first | (go_simp; done) | (go_simp; rfl))
              intro g1 w26 hbx hb
              have HG1 := Aside0.mk (C2 hbx)
              replace HG2 := Aside0.mk (Kd.C_below HG2.out hb)
              refine hK.out _ _ (hHeld.trans (hb.mono hHeld.size)) ?_
              clear hHeld hbx hb
              intro hHeld
              clear hK K
              refine norm_ (a' := ?_) ?_ ?_
              rotate_left
              · show Act.put _ (some 27) _ = _
                simp only [Act.put, List.setIfInBounds_toArray, List.set_cons_zero, List.set_cons_succ, i64_w, i32_w]
                rfl
              refine one_ (i := 4) (N := some 28) #[true, true, true, true, true, true, true, true, true, false, false, false] rfl rfl (one_of HT_.out (by kernel_rfl)) (by decide) (fun K hK => ?_)
              refine goes_ Try.func48 (by kernel_rfl) rfl #[.slice (some ⟨g1, 0, none⟩) 2 2] (by rfl) rfl rfl (by (try simp only [List.map_toArray, List.map_cons, List.map_nil]); first | done | rfl) ?_
              refine (stair_least.calls 3 (some ⟨g1, 0, none⟩) 2 [lo, mn] _ _ HG1.out (by simp) (least2 lo mn)).mono ?_
              rintro e w27 ⟨rfl, hb⟩
              replace HG2 := Aside0.mk (Kd.C_below HG2.out hb)
              refine ⟨_, rfl, hK.out _ _ (hHeld.trans (hb.mono hHeld.size)) ?_⟩
              clear hHeld hb
              intro hHeld
              clear hK K
              refine norm_ (a' := ?_) ?_ ?_
              rotate_left
              · show Act.put _ (some 28) _ = _
                simp only [Act.put, List.setIfInBounds_toArray, List.set_cons_zero, List.set_cons_succ, i64_w, i32_w]
                rfl
              exact norm_ (by simp only [putAll, Act.put, List.setIfInBounds_toArray, List.set_cons_zero, List.set_cons_succ]) (hCont (g1, g2) _ ⟨hHeld, HG2.out⟩)
          rintro ⟨g1, g2⟩ w30 ⟨hHeld, hg2⟩
          have HG2 := Aside0.mk hg2
          clear hg2
          refine norm_ (a' := ?_) ?_ ?_
          rotate_left
          · simp only [putAll, Act.put, List.setIfInBounds_toArray, List.set_cons_zero, List.set_cons_succ]
            rfl
          refine one_ (i := 9) (N := some 33) #[true, true, true, true, true, true, true, true, true, true, false, false] rfl rfl (one_of HT_.out (by kernel_rfl)) (by decide) (fun K hK => ?_)
          refine goes_ Try.func49 (by kernel_rfl) rfl #[.slice (some ⟨g2, 0, none⟩) 2 2] (by rfl) rfl rfl (by (try simp only [List.map_toArray, List.map_cons, List.map_nil]); first | done | rfl) ?_
          refine (stair_greatest.calls 3 (some ⟨g2, 0, none⟩) 2 [hi, mn] _ _ HG2.out (by simp) (greatest2 hi mn)).mono ?_
          rintro e w27 ⟨rfl, hb⟩
          refine ⟨_, rfl, hK.out _ _ (hHeld.trans (hb.mono hHeld.size)) ?_⟩
          clear hHeld hb
          intro hHeld
          clear hK K
          refine norm_ (a' := ?_) ?_ ?_
          rotate_left
          · show Act.put _ (some 33) _ = _
            simp only [Act.put, List.setIfInBounds_toArray, List.set_cons_zero, List.set_cons_succ, i64_w, i32_w]
            rfl
          refine take_ (i := 10) (N := some 34) (v := ?_) (a' := ?_) #[true, true, true, true, true, true, true, true, true, true, true, false] rfl rfl (take_ofW HT_.out HW_.out (by kernel_rfl)) (fun _ _ _ h => h) (Or.inl ⟨by rfl, ?_⟩) hHeld ?_ ?_
          rotate_left
          · rintro w' hS
            have s0 := (hS.cell (p := ⟨bo, 0, none⟩) HP.out.1).trans HP.out.2.1
            have s1 := (hS.cell (p := ⟨bo, 1, none⟩) HP.out.1).trans HP.out.2.2.1
            clear hS
            go_simp
            with_reducible rfl
          rotate_left
          · simp only [Act.put, List.setIfInBounds_toArray, List.set_cons_zero, List.set_cons_succ, i64_w, i32_w]
            rfl
          have t0 := (hHeld.cell (p := ⟨bo, 0, none⟩) HP.out.1).trans HP.out.2.1
          have t1 := (hHeld.cell (p := ⟨bo, 1, none⟩) HP.out.1).trans HP.out.2.2.1
          have HR2 := Aside0.mk (blk_below HC2.out.1 hHeld)
          have HF2 := Aside0.mk (blk_below HC2.out.2 hHeld)
          have HH2 := Aside0.mk hHeld
          have t2 := blk_frozen HR2.out 0
          have t3 := blk_frozen HR2.out 1
          refine last_ (i := 11) (N := none) #[true, true, true, true, true, true, true, true, true, true, true, true] rfl rfl (one_of HT_.out (by kernel_rfl)) (by decide) (fun K hK => ?_)
          refine skip_ (w1 := ?_) (by rfl) rfl ?_ ?_
          rotate_left
          · go_simp
            rfl
          refine hK.out _ _ ?_
          clear hK K
          refine done_ (done_of HT_.out (by kernel_rfl)) ?_
          refine onlyN_mk ?_
          gi_wp2_with fail
          have hne : mids pre ≠ [] := by have := HLO.out.2.2; intro e; rw [e] at this; simp at this
          refine ⟨(((Ch.of_below HBW.out).trans (Ch.of_below HH2.out)).setCell _ _ (fun _ => .inl rfl)).setCell _ _ (fun _ => .inl rfl), ?_⟩
          show _ ∧ _
          rw [HMS.out, if_pos trivial, sp_snoc hne, HLO.out.1, HLO.out.2.1]
          refine ⟨?_, ?_⟩
          · exact blk_put (blk_put HR2.out 0 _ rfl) 1 _ rfl
          · have e : (!(mids pre ++ [mn]).isEmpty) = true := by simp
            rw [e]
            exact blk_far (blk_far HF2.out (by show bo + 1 ≠ bo; omega) _) (by show bo + 1 ≠ bo; omega) _
    case done =>
      rintro W hch hcell hk
      obtain ⟨lo, hlo⟩ : ∃ lo, (sp (mids (hists L st l))).1 = lo := ⟨_, rfl⟩
      obtain ⟨hi, hhi⟩ : ∃ hi, (sp (mids (hists L st l))).2 = hi := ⟨_, rfl⟩
      obtain ⟨fb, hfb⟩ : ∃ fb, (!(mids (hists L st l)).isEmpty) = fb := ⟨_, rfl⟩
      rw [hlo, hhi, hfb] at hcell
      have HLO := Aside0.mk (And.intro hlo (And.intro hhi hfb))
      clear hlo hhi hfb
      have HBYW : Aside0 (W.heap[w.heap.size + 1]? = some (.cells #[.int .i64 0, .int .i64 0] 28 (0, 0))) := ⟨hch.heap HBY3.out (by rintro (h | h | h) <;> omega)⟩
      have HBW : Aside0 (Below w.heap.size w W) := ⟨HB3.out.trans (hch.below (by omega) (by rintro i hi (h | h | h) <;> omega))⟩
      have p0 : W.cell? ⟨bo, 0, none⟩ = some (.int .i64 lo) := (blk_cell hcell.1 0).trans rfl
      have p1 : W.cell? ⟨bo, 1, none⟩ = some (.int .i64 hi) := (blk_cell hcell.1 1).trans rfl
      have p2 : W.cell? ⟨bo + 1, 0, none⟩ = some (.bool fb) := (blk_cell hcell.2 0).trans rfl
      have p3 : W.cell? ⟨w.heap.size + 1, 0, none⟩ = some (.int .i64 0) := (blk_cell HBYW.out 0).trans rfl
      have p4 : W.cell? ⟨w.heap.size + 1, 1, none⟩ = some (.int .i64 0) := (blk_cell HBYW.out 1).trans rfl
      have p5 := blk_frozen HBYW.out 0
      have p6 := blk_frozen HBYW.out 1
      have HK := Aside0.mk hk
      clear hcell hk hch
      cases fb with
      | false =>
        gi_wp2_with fail
        refine mark_ret (((Below.heap_setCell _ _ _ _ (by show w3.heap.size ≠ w.heap.size + 1; omega)).trans (Below.heap_setCell _ _ _ _ (by show w3.heap.size ≠ w.heap.size + 1; omega))).trans HK.out) ?_
        intro W' hW' hb'
        have hnil : mids (hists L st l) = [] := by have := HLO.out.2.2; simpa using this
        have hp : midE L st l = 7 := by unfold midE; rw [HCK.out, if_pos rfl, if_pos hnil]
        have hp2 : midR L st l = (0, 0) := by unfold midR; rw [hp]; rfl
        have hrow := (hW' _ (by omega)).trans (blk_put (cs := #[.int .i64 0, .int .i64 0]) (blk_put HBYW.out 0 (.int .i64 0) rfl) 1 (.int .i64 0) rfl)
        have hc5 := (blk_cell hrow 0).trans rfl
        have hc6 := (blk_cell hrow 1).trans rfl
        refine ⟨.tuple #[.agg #[.int .i64 0, .int .i64 0], .int .i64 7], by simp [results, Try.f18, go_sem, hc5, hc6], by rw [hp, hp2], ?_⟩
        exact (below_set (below_set HBW.out (by simp)) (by simp)).trans (hb'.mono (by omega))
      | true =>
        gi_wp2_with fail
        refine mark_ret (((Below.heap_setCell _ _ _ _ (by show w3.heap.size ≠ w.heap.size + 1; omega)).trans (Below.heap_setCell _ _ _ _ (by show w3.heap.size ≠ w.heap.size + 1; omega))).trans HK.out) ?_
        intro W' hW' hb'
        have hnn : mids (hists L st l) ≠ [] := by have := HLO.out.2.2; intro e; rw [e] at this; simp at this
        have hp : midE L st l = 0 := by unfold midE; rw [HCK.out, if_pos rfl, if_neg hnn]
        have hp2 : midR L st l = (lo, hi) := by unfold midR; rw [hp, if_pos rfl]; exact Prod.ext HLO.out.1 HLO.out.2.1
        have hrow := (hW' _ (by omega)).trans (blk_put (cs := #[.int .i64 lo, .int .i64 0]) (blk_put HBYW.out 0 (.int .i64 lo) rfl) 1 (.int .i64 hi) rfl)
        have hc5 := (blk_cell hrow 0).trans rfl
        have hc6 := (blk_cell hrow 1).trans rfl
        refine ⟨.tuple #[.agg #[.int .i64 lo, .int .i64 hi], .int .i64 0], by simp [results, Try.f18, go_sem, hc5, hc6], by rw [hp, hp2], ?_⟩
        exact (below_set (below_set HBW.out (by simp)) (by simp)).trans (hb'.mono (by omega))
    case stop =>
      rintro k pre W hpre hch h hk
      exact h.elim
  · have h0b : (ck == 0) = false := beq_eq_false_iff_ne.2 h0
    have h0c : (ck != 0) = true := bne_iff_ne.2 h0
    have hp : midE L st l = ck := by unfold midE; rw [HCK.out, if_neg h0]
    have hp2 : midR L st l = (0, 0) := by unfold midR; rw [hp, if_neg h0]
    gi_wp2_with fail
    have hrow := blk_put (cs := #[.int .i64 0, .int .i64 0]) (blk_put HBY2.out 0 (.int .i64 0) rfl) 1 (.int .i64 0) rfl
    refine ⟨.tuple #[.agg #[.int .i64 0, .int .i64 0], .int .i64 ck], ?_, by rw [hp, hp2], ?_⟩
    · have hc5 := (blk_cell hrow 0).trans rfl
      have hc6 := (blk_cell hrow 1).trans rfl
      simp [results, Try.f18, go_sem, hc5, hc6]
    · exact below_set (below_set HB2.out (by simp)) (by simp)
end Go.Proofs.Ytkglggggmlnleaa.Print
