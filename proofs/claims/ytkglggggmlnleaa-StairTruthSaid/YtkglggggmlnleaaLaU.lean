/- The law of the truth, walked by hand. -/
import Derived.Test.YtkglggggmlnleaaM5
import Derived.Test.YtkglggggmlnleaaM4
import Derived.Test.YtkglggggmlnleaaPq
import Derived.Test.YtkglggggmlnleaaMr
namespace Go.Proofs.Ytkglggggmlnleaa.Print
open Go.RowKit Go.Proofs.YtkglggggmlnleaaW.PrintWords Go.Proofs.YtkglggggmlnleaaW.PrintLast Go.Proofs.YtkglggggmlnleaaW.PrintMore
set_option linter.unusedVariables false
set_option linter.unusedSimpArgs false
theorem len69 (A : Option Addr) (n c : Nat) (hn : n ≤ 1000) : ∀ W : World, (Builtin.len_ #[69] 3 #[.slice A n c]).run Try.prog W = .ok (.int .i64 (n : Int)) W := fun W => by
  have h1 : Try.prog.elem 69 = 28 := by simp [Program.elem, Try.underlying69]
  have h2 : IntKind.i64.wrap (n : Int) = n := IntWalk.i64_in _ (by omega)
  rw [run_len_slice W 69 3 A n c (by rw [h1]; exact Try.underlying69)]
  simp [goInt, h2]
theorem len37 (A : Option Addr) (n c : Nat) (hn : n ≤ 1000) : ∀ W : World, (Builtin.len_ #[37] 3 #[.slice A n c]).run Try.prog W = .ok (.int .i64 (n : Int)) W := fun W => by
  have h1 : Try.prog.elem 37 = 41 := by simp [Program.elem, Try.underlying37]
  have h2 : IntKind.i64.wrap (n : Int) = n := IntWalk.i64_in _ (by omega)
  rw [run_len_slice W 37 3 A n c (by rw [h1]; exact Try.underlying37)]
  simp [goInt, h2]
theorem rankc_n (L st : Int) (A : Option Addr) (c : Nat) (l : List S67) (k : Int) (w : World) (n : Nat) (hn : l.length = n) (hr : Kd.C k67 w A n l) (hc : n ≤ c) :
    Calls Try.prog 25 #[.agg #[.int .i64 L, .int .i64 st, .slice A n c], .int .i64 k] w fun e w' => e = .returned (.tuple #[.agg #[.int .i64 (rankR L st l k).1, .int .i64 (rankR L st l k).2], .int .i64 (askE L st l k)]) ∧ Below w.heap.size w w' := by
  subst hn; exact rank_calls L st A c l k w hr hc

theorem rowsN {α : Type} {d : Kd α} {e : Nat} {w : World} {base : Nat} {ok : Nat → Prop} {v : Value} {xs : List α} (h : Kd.R d e w base ok v xs) (n : Nat) (hn : xs.length = n) : ∃ A c, v = .slice A n c ∧ Aside0 (Kd.C d w A n xs) ∧ n ≤ c := by
  subst hn
  obtain ⟨A, c, h1, h2, h3⟩ := Kd.R_reads h
  exact ⟨A, c, h1, ⟨h3⟩, h2⟩
theorem bytes_n (A : Option Addr) (c : Nat) (l : List Int) (w : World) (n : Nat) (hn : l.length = n) (hr : Kd.C (Kd.int .u8) w A n l) (hc : n ≤ c) (hl : n ≤ 1000) :
    Calls Try.prog 33 #[.slice A n c] w fun e w' => (∃ A' c', e = .returned (.slice A' n c') ∧ Aside0 (Kd.C (Kd.int .u8) w' A' n l) ∧ n ≤ c') ∧ Below w.heap.size w w' := by
  subst hn
  refine (bytes_calls A c l w hr hc hl).mono ?_
  rintro e w' ⟨v, rfl, hR, hb⟩
  obtain ⟨A', c', rfl, h1, h2⟩ := rowsN hR _ rfl
  exact ⟨⟨A', c', rfl, h1, h2⟩, hb⟩
theorem prove_n (L st : Int) (A : Option Addr) (c : Nat) (l : List S67) (A1 : Option Addr) (c1 : Nat) (rs : List Int) (w : World) (n : Nat) (hn : l.length = n) (hn1 : rs.length = n) (hr : Kd.C k67 w A n l) (hc : n ≤ c) (hr1 : Kd.C (Kd.int .u8) w A1 n rs) (hc1 : n ≤ c1) (hu : ∀ r ∈ rs, 0 ≤ r) (hp : proveB L st l rs = true) :
    Calls Try.prog 32 #[.agg #[.int .i64 L, .int .i64 st, .slice A n c], .slice A1 n c1] w fun e w' => e = .returned (.bool true) ∧ Below w.heap.size w w' := by
  subst hn
  have h := prove_calls L st A c l A1 c1 rs w hr hc (by rw [hn1]; exact hr1) (by rw [hn1]; exact hc1) hu
  rw [hp, hn1] at h
  exact h
theorem sorted_n (A : Option Addr) (c : Nat) (xs : List Int) (w : World) (n : Nat) (hn : xs.length = n) (hr : Kd.C (Kd.int .i64) w A n xs) (hl : n ≤ 1000) :
    Calls Try.prog 30 #[.slice A n c] w fun e w' => (∃ A' c', e = .returned (.slice A' n c') ∧ Aside0 (Kd.C (Kd.int .i64) w' A' n (rising xs))) ∧ Below w.heap.size w w' := by
  subst hn
  refine (refsorted_calls A c xs w hr hl).mono ?_
  rintro e w' ⟨v, rfl, hR, hb⟩
  obtain ⟨A', c', rfl, h1, h2⟩ := rowsN hR xs.length (List.mergeSort_perm xs _).length_eq
  exact ⟨⟨A', c', rfl, h1⟩, hb⟩
theorem refmid_n (L st : Int) (A : Option Addr) (c : Nat) (l : List S43) (A1 : Option Addr) (c1 : Nat) (rs : List Int) (w : World) (n : Nat) (hn : l.length = n) (hn1 : rs.length = n) (hr1 : Kd.C (Kd.int .u8) w A1 n rs)
    (hL : L ≤ 8) (h0 : 0 ≤ st) (h1 : st < L) (h14 : n ≤ 14) (hrs : ∀ r ∈ rs, 0 ≤ r ∧ r < 3) :
    Calls Try.prog 22 #[.agg #[.int .i64 L, .int .i64 st, .slice A n c], .slice A1 n c1] w fun e w' => e = .returned (.tuple #[.int .i64 (midI (histOf L st rs)).1, .bool (midI (histOf L st rs)).2]) ∧ Below w.heap.size w w' := by
  subst hn
  have h := refmiddle_calls L st A c l A1 c1 rs w (by rw [hn1]; exact hr1) hL h0 h1 (by omega) hrs
  rw [hn1] at h
  exact h
theorem u16_range {x : Int} (h : (Lit.int .u16 x).wf = true) : 0 ≤ x ∧ x < 65536 := by
  simp [Lit.wf, IntKind.min, IntKind.max, IntKind.signed, IntKind.bits] at h
  omega
theorem risN (l : List Int) : (rising l).length = l.length := (List.mergeSort_perm l _).length_eq
theorem C_pairN {w w1 : World} {A : Option Addr} {n m c : Nat} {xs : List S67} (h : Kd.C k67 w A n xs ∧ m ≤ c) (hb : Below w.heap.size w w1) : Kd.C k67 w1 A n xs ∧ m ≤ c := ⟨Kd.C_below h.1 hb, h.2⟩
theorem below_step {w0 w w1 : World} (h : Below w0.heap.size w0 w) (hb : Below w.heap.size w w1) : Below w0.heap.size w0 w1 := h.trans (hb.mono h.size)
/-- What is told of a specimen that was shaken, run by run. -/
theorem truth_key {L st : Int} {ts : List Int} {bs : List Bool} {zs ss : List S43} {xs : List S67} {p q : Nat → Bool} (hL1 : 1 ≤ L) (hL : L ≤ 8) (h0 : 0 ≤ st) (h1 : st < L) (hlen : ts.length = bs.length) (hn : ts.length ≤ 14) (hp : ∀ y ∈ ts, 0 ≤ y ∧ y ≤ L) (hz : shakeZ L st (ts.zip bs) = zs) (hs : (loseS p q zs zs.length).1 = ss) (hx : ss.map up = xs) :
    zs.length = ts.length ∧ ss.length = ts.length ∧ xs.length = ts.length ∧ proveB L st xs (zs.map (·.f1)) = true ∧ possI L st xs = 0 ∧ (∀ r ∈ zs.map (·.f1), 0 ≤ r ∧ r < 3) ∧
    (∀ j : Nat, j < ts.length → ∃ z0 z1 lo hi : Int, ∃ row : List Int, zs[j]? = some ⟨z0, z1⟩ ∧ (zs.map (·.f1))[j]? = some z1 ∧ ((List.range ts.length).map fun i => (⟨(sp (lvAt (hists L st xs) i)).1, (sp (lvAt (hists L st xs) i)).2⟩ : S28))[j]? = some ⟨lo, hi⟩ ∧ ((List.range ts.length).map fun i => rowR (rsAt (hists L st xs) i))[j]? = some row ∧ lo ≤ z0 ∧ z0 ≤ hi ∧ z1 ∈ row ∧ row.length ≤ 3 ∧ askE L st xs j = 0 ∧ ∃ t, (rising ts)[j]? = some t ∧ (rankR L st xs j).1 ≤ t ∧ t ≤ (rankR L st xs j).2) ∧
    ((midI (histOf L st (zs.map (·.f1)))).2 = true → midE L st xs = 0 ∧ (midR L st xs).1 ≤ (midI (histOf L st (zs.map (·.f1)))).1 ∧ (midI (histOf L st (zs.map (·.f1)))).1 ≤ (midR L st xs).2) := by
  subst hx
  have hpl : (ts.zip bs).length = ts.length := by rw [List.length_zip]; omega
  have hm : (ts.zip bs).map (·.1) = ts := List.map_fst_zip (by omega)
  obtain ⟨t1, t2, t3, t4, t5, t6, t7⟩ := truth_law (p := p) (q := q) hL1 hL h0 h1 (by omega) (fun y hy => hp y.1 (by rw [← hm]; exact List.mem_map_of_mem hy)) hz hs
  have hzl : zs.length = ts.length := by rw [← hz, shakeZ_len, hpl]
  have hzm : ∀ z ∈ zs, 0 ≤ z.f0 ∧ z.f0 < L ∧ 0 ≤ z.f1 ∧ z.f1 < 3 := by rw [← hz]; exact shake_mem L _ st h0 h1
  rw [hpl] at t1 t6
  rw [hm] at t6
  refine ⟨hzl, t1, by rw [List.length_map]; exact t1, t3, t4, ?_, ?_, t7⟩
  · intro r hr
    obtain ⟨z, hz2, rfl⟩ := List.mem_map.1 hr
    exact ⟨(hzm z hz2).2.2.1, (hzm z hz2).2.2.2⟩
  · intro j hj
    obtain ⟨⟨z0, z1⟩, hzj⟩ : ∃ z, zs[j]? = some z := ⟨_, List.getElem?_eq_getElem (by omega)⟩
    obtain ⟨a1, a2, a3⟩ := t5 j _ hzj
    obtain ⟨b1, b2, b3⟩ := t6 j hj
    have hrl : (rising ts).length = ts.length := (List.mergeSort_perm ts _).length_eq
    obtain ⟨t, ht⟩ : ∃ t, (rising ts)[j]? = some t := ⟨_, List.getElem?_eq_getElem (by omega)⟩
    rw [List.getD_eq_getElem?_getD, ht] at b2 b3
    refine ⟨z0, z1, _, _, _, hzj, ?_, ?_, ?_, a1, a2, a3, rowR_len _, b1, t, ht, b2, b3⟩
    · rw [List.getElem?_map, hzj]; rfl
    · rw [List.getElem?_map, List.getElem?_range hj]; rfl
    · rw [List.getElem?_map, List.getElem?_range hj]; rfl
set_option maxHeartbeats 4000000 in
set_option maxRecDepth 100000 in
theorem law_truth (lv sv : Int) (A : Option Addr) (c : Nat) (ls : List Int) (stops lost : Int) (w : World) (hr : Kd.C (Kd.int .u8) w A ls.length ls) (hv : 0 ≤ lv ∧ lv < 256) (hw : 0 ≤ sv ∧ sv < 256) (hu : ∀ v ∈ ls, 0 ≤ v ∧ v < 256) (hl : ls.length ≤ 9223372036854775807) (hb : 0 ≤ stops ∧ stops < 65536) (hb2 : 0 ≤ lost ∧ lost < 65536) :
    Calls Try.prog 14 #[.int .u8 lv, .int .u8 sv, .slice A ls.length c, .int .u16 stops, .int .u16 lost] w fun e w' => e = .returned (.bool true) ∧ Below w.heap.size w w' := by
  obtain ⟨v0, v1⟩ := hv
  obtain ⟨v2, v3⟩ := hw
  obtain ⟨v4, v5⟩ := hb
  obtain ⟨v6, v7⟩ := hb2
  have hu24 := Try.underlying24
  have hu28 := Try.underlying28
  have hu43 := Try.underlying43
  have HR := Aside0.mk hr
  have HU := Aside0.mk hu
  have KB : Aside0 (Below w.heap.size w w) := ⟨Below.refl _ _⟩
  clear hr hu
  go_enter Try.func14, Try.ntmps14
  go_wp2_with fail
  refine (truly_calls lv sv A c ls stops lost _ HR.out ⟨v0, v1⟩ ⟨v2, v3⟩ HU.out hl ⟨v4, v5⟩ ⟨v6, v7⟩).mono ?_
  rintro e w1 ⟨L, st, vs, vt, vr, zs, ss, ts, bs, rfl, hL1, hL8, hs0, hs1, hRs, hRz, hRt, hz, hlen, h14, htr, ⟨p, q, hss⟩, hb1⟩
  replace KB := Aside0.mk (KB.out.trans (hb1.mono KB.out.size))
  obtain ⟨xs, hxs⟩ : ∃ xs, ss.map up = xs := ⟨_, rfl⟩
  obtain ⟨k1, k2, k3, k4, k5, k6, k7, k8⟩ := truth_key hL1 hL8 hs0 hs1 hlen h14 htr hz hss hxs
  obtain ⟨n, hn⟩ : ∃ n, ts.length = n := ⟨_, rfl⟩
  rw [hn] at k1 k2 k3 k7 h14
  have HX := Aside0.mk hxs
  have HTL := Aside0.mk hn
  have HZL := Aside0.mk k1
  have HSL := Aside0.mk k2
  have HXL := Aside0.mk k3
  have HPR := Aside0.mk k4
  have HP0 := Aside0.mk k5
  have HRS := Aside0.mk k6
  have HKEY := Aside0.mk k7
  have HMK := Aside0.mk k8
  obtain ⟨As, cs, rfl, CS, hcs⟩ := rowsN hRs n k2
  obtain ⟨Az, cz, rfl, CZ, hcz⟩ := rowsN hRz n k1
  obtain ⟨At, ct, rfl, CT, hct⟩ := rowsN hRt n hn
  have HCS := Aside0.mk hcs
  clear hRs hRz hRt hz hlen htr hss hxs hn k1 k2 k3 k4 k5 k6 k7 k8 hcz hct hcs hL1
  clear hb1
  go_wp2_with fail
  have X := Aside0.mk (blk_new w1 (.cells #[.int .i64 L, .int .i64 st, .slice As n cs] 24))
  have hb2 : Below w1.heap.size w1 (w1.alloc (.cells #[.int .i64 L, .int .i64 st, .slice As n cs] 24)) := (Below.refl _ _).alloc (Nat.le_refl _) _
  replace KB := Aside0.mk (KB.out.trans (hb2.mono KB.out.size))
  replace CS := Aside0.mk (Kd.C_below CS.out hb2)
  replace CZ := Aside0.mk (Kd.C_below CZ.out hb2)
  replace CT := Aside0.mk (Kd.C_below CT.out hb2)
  clear hb2
  obtain ⟨gX, hgX⟩ : ∃ g, w1.heap.size = g := ⟨_, rfl⟩
  rw [hgX] at X ⊢
  clear hgX
  generalize w1.alloc (.cells #[.int .i64 L, .int .i64 st, .slice As n cs] 24) = w2 at X KB CS CZ CT ⊢
  have qX0 : w2.cell? ⟨gX, 0, none⟩ = some (.int .i64 L) := (blk_cell X.out 0).trans rfl
  have qX1 : w2.cell? ⟨gX, 1, none⟩ = some (.int .i64 st) := (blk_cell X.out 1).trans rfl
  have qX2 : w2.cell? ⟨gX, 2, none⟩ = some (.slice As n cs) := (blk_cell X.out 2).trans rfl
  have lX := blk_lt X.out
  go_wp2_with fail
  go_loopw [14, 15] (fun t i wr => ∃ (jn : Nat) (v : Value), jn ≤ n ∧ i = .int .i64 jn ∧ v = t ∧ Aside0 (Kd.R (Kd.int .u8) 5 wr w2.heap.size (fun _ => True) v ((zs.take jn).map (·.f1))) ∧ Aside0 (Below w2.heap.size w2 wr)) (fun _ i _ => n - (intOf i).toNat)
  case atStart => exact ⟨0, _, by omega, rfl, rfl, ⟨Kd.R_nil _ _ _ _ _⟩, ⟨Below.refl _ _⟩⟩
  case round =>
    obtain ⟨jn, v, hj, rfl, rfl, HV, HBW⟩ := hrel
    by_cases hj3 : jn < n
    · have hj6 : decide ((jn : Int) < (n : Int)) = true := decide_eq_true (by omega)
      have hj7 : (jn : Int) < (n : Int) := by omega
      have hj8 : (0 : Int) ≤ (jn : Int) := by omega
      have hj9 : (jn : Int) < 14 := by omega
      obtain ⟨ad, rfl, g0, g1⟩ := cell43 (show Kd.C k43 wr Az zs.length zs by rw [HZL.out]; exact Kd.C_below CZ.out HBW.out) jn (by rw [HZL.out]; exact hj3)
      obtain ⟨⟨y0, y1⟩, hy⟩ : ∃ y, zs[jn]'(by rw [HZL.out]; exact hj3) = y := ⟨_, rfl⟩
      rw [hy] at g0 g1
      have g1 : wr.cell? ⟨(ad.add (jn * 2)).block, (ad.add (jn * 2)).off + 1, none⟩ = some (.int .u8 y1) := g1
      have HT : Aside0 (((zs.take (jn + 1)).map (·.f1)) = ((zs.take jn).map (·.f1)) ++ [y1]) := ⟨by rw [List.take_add_one, List.getElem?_eq_getElem (by rw [HZL.out]; exact hj3), hy]; simp⟩
      clear hy g0
      go_wp2_with (first | ((with_reducible refine gate_builtin (b := .append) (xs := #[.tmp 45, .tmp 51]) rfl ?_); at_builtin; go_loud (refine Kd.R_append (Kd.int .u8) (w0 := w2) w2.heap.size rfl (.tmp 45) (.tmp 51) 41 5 (.int .u8 0) 1 rfl Try.underlying41 info5 rfl (by decide) (by omega) v ((zs.take jn).map (·.f1)) y1 [.int .u8 y1] (fun _ => True) (fun _ => False) rfl (by simp [Act.eval]) rfl (fun _ h => h.elim) (fun _ _ => trivial) HV.out HBW.out HBW.out.size (by have := HZL.out; simp; omega) ?_; intro v7 w8 hR hb hg hat; have HV8 := Aside0.mk hR; have HB8 := Aside0.mk hb; clear hR hb hg hat)))
      go_roundw
      case rel => exact ⟨jn + 1, _, by omega, by go_num, rfl, ⟨by rw [HT.out]; exact HV8.out⟩, HB8⟩
      case measure => simp [intOf]; omega
    · have hj6 : decide ((jn : Int) < (n : Int)) = false := decide_eq_false (by omega)
      obtain rfl : n = jn := by omega
      obtain ⟨rs, hrs⟩ : ∃ rs, zs.map (·.f1) = rs := ⟨_, rfl⟩
      have HVR := HV.out
      rw [show (zs.take n).map (·.f1) = rs by rw [← hrs, List.take_of_length_le (by rw [HZL.out]; omega)]] at HVR
      rw [hrs] at HPR HRS HKEY HMK
      have HRL : Aside0 (rs.length = n) := ⟨by rw [← hrs, List.length_map]; exact HZL.out⟩
      obtain ⟨Ar, cr, rfl, CR, hcr⟩ := rowsN HVR n HRL.out
      have HCR := Aside0.mk hcr
      clear HV HVR hrs hcr hj3
      clear qX0 qX1 qX2 lX
      replace KB := Aside0.mk (KB.out.trans (HBW.out.mono KB.out.size))
      replace CS := Aside0.mk (Kd.C_below CS.out HBW.out)
      replace CZ := Aside0.mk (Kd.C_below CZ.out HBW.out)
      replace CT := Aside0.mk (Kd.C_below CT.out HBW.out)
      replace X := Aside0.mk (blk_below X.out HBW.out)
      clear HBW
      have qX0 : wr.cell? ⟨gX, 0, none⟩ = some (.int .i64 L) := (blk_cell X.out 0).trans rfl
      have qX1 : wr.cell? ⟨gX, 1, none⟩ = some (.int .i64 st) := (blk_cell X.out 1).trans rfl
      have qX2 : wr.cell? ⟨gX, 2, none⟩ = some (.slice As n cs) := (blk_cell X.out 2).trans rfl
      have lX := blk_lt X.out
      go_wp2_with fail
      refine (stairs_n L st As cs ss _ n HSL.out CS.out HCS.out (by omega) xs HX.out n HXL.out).mono ?_
      rintro e w31 ⟨⟨A1, c1, rfl, HC1⟩, hb31⟩
      clear qX0 qX1 qX2 lX
      replace KB := Aside0.mk (KB.out.trans (hb31.mono KB.out.size))
      replace CS := Aside0.mk (Kd.C_below CS.out hb31)
      replace CZ := Aside0.mk (Kd.C_below CZ.out hb31)
      replace CT := Aside0.mk (Kd.C_below CT.out hb31)
      replace X := Aside0.mk (blk_below X.out hb31)
      replace CR := Aside0.mk (Kd.C_below CR.out hb31)
      clear hb31
      have qX0 : w31.cell? ⟨gX, 0, none⟩ = some (.int .i64 L) := (blk_cell X.out 0).trans rfl
      have qX1 : w31.cell? ⟨gX, 1, none⟩ = some (.int .i64 st) := (blk_cell X.out 1).trans rfl
      have qX2 : w31.cell? ⟨gX, 2, none⟩ = some (.slice As n cs) := (blk_cell X.out 2).trans rfl
      have lX := blk_lt X.out
      go_wp2_with fail
      refine (bytes_n Ar cr rs _ n HRL.out CR.out HCR.out (by omega)).mono ?_
      rintro e w32 ⟨⟨A2, c2, rfl, CB, hc2⟩, hb32⟩
      clear qX0 qX1 qX2 lX
      replace KB := Aside0.mk (KB.out.trans (hb32.mono KB.out.size))
      replace CS := Aside0.mk (Kd.C_below CS.out hb32)
      replace CZ := Aside0.mk (Kd.C_below CZ.out hb32)
      replace CT := Aside0.mk (Kd.C_below CT.out hb32)
      replace X := Aside0.mk (blk_below X.out hb32)
      replace CR := Aside0.mk (Kd.C_below CR.out hb32)
      replace HC1 := Aside0.mk (C_pairN HC1.out hb32)
      clear hb32
      have qX0 : w32.cell? ⟨gX, 0, none⟩ = some (.int .i64 L) := (blk_cell X.out 0).trans rfl
      have qX1 : w32.cell? ⟨gX, 1, none⟩ = some (.int .i64 st) := (blk_cell X.out 1).trans rfl
      have qX2 : w32.cell? ⟨gX, 2, none⟩ = some (.slice As n cs) := (blk_cell X.out 2).trans rfl
      have lX := blk_lt X.out
      go_wp2_with fail
      refine (prove_n L st A1 c1 xs A2 c2 rs _ n HXL.out HRL.out HC1.out.1 HC1.out.2 CB.out hc2 (fun r hr => (HRS.out r hr).1) HPR.out).mono ?_
      rintro e w33 ⟨rfl, hb33⟩
      clear qX0 qX1 qX2 lX
      replace KB := Aside0.mk (KB.out.trans (hb33.mono KB.out.size))
      replace CS := Aside0.mk (Kd.C_below CS.out hb33)
      replace CZ := Aside0.mk (Kd.C_below CZ.out hb33)
      replace CT := Aside0.mk (Kd.C_below CT.out hb33)
      replace X := Aside0.mk (blk_below X.out hb33)
      replace CR := Aside0.mk (Kd.C_below CR.out hb33)
      replace HC1 := Aside0.mk (C_pairN HC1.out hb33)
      clear hb33
      have qX0 : w33.cell? ⟨gX, 0, none⟩ = some (.int .i64 L) := (blk_cell X.out 0).trans rfl
      have qX1 : w33.cell? ⟨gX, 1, none⟩ = some (.int .i64 st) := (blk_cell X.out 1).trans rfl
      have qX2 : w33.cell? ⟨gX, 2, none⟩ = some (.slice As n cs) := (blk_cell X.out 2).trans rfl
      have lX := blk_lt X.out
      clear HC1 CB hc2
      go_wp2_with fail
      refine (stairs_n L st As cs ss _ n HSL.out CS.out HCS.out (by omega) xs HX.out n HXL.out).mono ?_
      rintro e w34 ⟨⟨A3, c3, rfl, HC3⟩, hb34⟩
      clear qX0 qX1 qX2 lX
      replace KB := Aside0.mk (KB.out.trans (hb34.mono KB.out.size))
      replace CS := Aside0.mk (Kd.C_below CS.out hb34)
      replace CZ := Aside0.mk (Kd.C_below CZ.out hb34)
      replace CT := Aside0.mk (Kd.C_below CT.out hb34)
      replace X := Aside0.mk (blk_below X.out hb34)
      replace CR := Aside0.mk (Kd.C_below CR.out hb34)
      clear hb34
      have qX0 : w34.cell? ⟨gX, 0, none⟩ = some (.int .i64 L) := (blk_cell X.out 0).trans rfl
      have qX1 : w34.cell? ⟨gX, 1, none⟩ = some (.int .i64 st) := (blk_cell X.out 1).trans rfl
      have qX2 : w34.cell? ⟨gX, 2, none⟩ = some (.slice As n cs) := (blk_cell X.out 2).trans rfl
      have lX := blk_lt X.out
      go_wp2_with fail
      refine (runs_n L st A3 c3 xs n _ HXL.out HC3.out.1 HC3.out.2).mono ?_
      rintro e w35 ⟨vs, vr, rfl, hO, hb35⟩
      clear qX0 qX1 qX2 lX
      replace KB := Aside0.mk (KB.out.trans (hb35.mono KB.out.size))
      replace CS := Aside0.mk (Kd.C_below CS.out hb35)
      replace CZ := Aside0.mk (Kd.C_below CZ.out hb35)
      replace CT := Aside0.mk (Kd.C_below CT.out hb35)
      replace X := Aside0.mk (blk_below X.out hb35)
      replace CR := Aside0.mk (Kd.C_below CR.out hb35)
      rw [HP0.out]
      obtain ⟨Al, Aq, rfl, rfl, hC1, hC2⟩ := hO.ok HP0.out n HXL.out
      have CL := Aside0.mk hC1
      have CQ := Aside0.mk hC2
      clear hO hC1 hC2 HC3
      clear hb35
      have qX0 : w35.cell? ⟨gX, 0, none⟩ = some (.int .i64 L) := (blk_cell X.out 0).trans rfl
      have qX1 : w35.cell? ⟨gX, 1, none⟩ = some (.int .i64 st) := (blk_cell X.out 1).trans rfl
      have qX2 : w35.cell? ⟨gX, 2, none⟩ = some (.slice As n cs) := (blk_cell X.out 2).trans rfl
      have lX := blk_lt X.out
      have u1 : ((n : Int) != (n : Int)) = false := bne_eq_false_iff_eq.2 rfl
      have u2 := len69 Al n n (by omega)
      have u3 := len37 Aq n n (by omega)
      go_wp2_with ((with_reducible show Oper.upon _ _ _ _ _ _); go_simp)
      clear u1 u2 u3
      clear qX0 qX1 qX2 lX
      skip
      go_loopw [19] (fun i wr => ∃ kn : Nat, kn ≤ n ∧ i = .int .i64 kn ∧ Aside0 (Below w35.heap.size w35 wr)) (fun i _ => n - (intOf i).toNat)
      case atStart => exact ⟨0, by omega, rfl, ⟨Below.refl _ _⟩⟩
      case round =>
        obtain ⟨kn, hk, rfl, HBM⟩ := hrel
        obtain ⟨wm, rfl⟩ : ∃ x : World, x = wr := ⟨_, rfl⟩
        replace KB := Aside0.mk (KB.out.trans (HBM.out.mono KB.out.size))
        replace CS := Aside0.mk (Kd.C_below CS.out HBM.out)
        replace CZ := Aside0.mk (Kd.C_below CZ.out HBM.out)
        replace CT := Aside0.mk (Kd.C_below CT.out HBM.out)
        replace X := Aside0.mk (blk_below X.out HBM.out)
        replace CR := Aside0.mk (Kd.C_below CR.out HBM.out)
        replace CL := Aside0.mk (Kd.C_below CL.out HBM.out)
        replace CQ := Aside0.mk (Kd.C_below CQ.out HBM.out)
        by_cases hk3 : kn < n
        · have hk6 : decide ((kn : Int) < (n : Int)) = true := decide_eq_true (by omega)
          have hk7 : (kn : Int) < (n : Int) := by omega
          have hk8 : (0 : Int) ≤ (kn : Int) := by omega
          have hk9 : (kn : Int) < 14 := by omega
          obtain ⟨z0, z1, lo, hi, row, e1, e2, e3, e4, e5, e6, e7, e8, q1, t, q2, q3, q4⟩ := HKEY.out kn hk3
          obtain ⟨ra, hra⟩ : ∃ ra, (rankR L st xs kn).1 = ra := ⟨_, rfl⟩
          obtain ⟨rb_, hrb_⟩ : ∃ rb_, (rankR L st xs kn).2 = rb_ := ⟨_, rfl⟩
          rw [hra] at q3
          rw [hrb_] at q4
          have HRA := Aside0.mk hra
          have HRB := Aside0.mk hrb_
          have HQ1 := Aside0.mk q1
          have HT := Aside0.mk q2
          obtain ⟨nw, hnw⟩ : ∃ nw, row.length = nw := ⟨_, rfl⟩
          have hnw3 : nw ≤ 3 := hnw ▸ e8
          have HNW := Aside0.mk hnw
          have HMEM := Aside0.mk e7
          clear hra hrb_ q1 q2 e7 e8 hnw
          have rd := HTL.out
          obtain ⟨adz, rfl, g0, g1⟩ := cell43 (show Kd.C k43 wm Az zs.length zs by rw [HZL.out]; exact CZ.out) kn (by rw [HZL.out]; exact hk3)
          have ez : zs[kn]'(by rw [HZL.out]; exact hk3) = ⟨z0, z1⟩ := by rw [List.getElem?_eq_getElem (by rw [HZL.out]; exact hk3)] at e1; exact Option.some.inj e1
          rw [ez] at g0
          have g0 : wm.cell? (adz.add (kn * 2)) = some (.int .i64 z0) := g0
          obtain ⟨adl, rfl, g2, g3⟩ := cell28 CL.out kn hk3 e3
          obtain ⟨adq, A0, c0, rfl, g4, _, g5⟩ := cellRow CQ.out kn hk3 row e4
          rw [HNW.out] at g4 g5
          obtain ⟨adr, rfl, g6⟩ := cellU (show Kd.C (Kd.int .u8) wm Ar rs.length rs by rw [HRL.out]; exact CR.out) kn (by rw [HRL.out]; exact hk3)
          have er : rs[kn]'(by rw [HRL.out]; exact hk3) = z1 := by rw [List.getElem?_eq_getElem (by rw [HRL.out]; exact hk3)] at e2; exact Option.some.inj e2
          rw [er] at g6
          have C0 := Aside0.mk g5
          clear e1 e2 e3 e4 ez er g1 g5 rd
          have G0 := Aside0.mk g0
          have G2 := Aside0.mk g2
          have G3 := Aside0.mk g3
          clear g0 g2 g3
          go_wp2_with fail
          go_loopw [20, 21] (fun b i wr2 => ∃ (pn : Nat) (sb : Bool), pn ≤ nw ∧ i = .int .i64 pn ∧ b = .bool sb ∧ Aside0 (sb = (row.take pn).any fun x => x == z1) ∧ Aside0 (Below wm.heap.size wm wr2)) (fun _ i _ => nw - (intOf i).toNat)
          case atStart => exact ⟨0, false, by omega, rfl, rfl, ⟨rfl⟩, ⟨Below.refl _ _⟩⟩
          case round =>
            obtain ⟨pn, sb, hp, rfl, rfl, HSB, HBI⟩ := hrel
            skip
            by_cases hp3 : pn < nw
            · have hp6 : decide ((pn : Int) < (nw : Int)) = true := decide_eq_true (by omega)
              have hp7 : (pn : Int) < (nw : Int) := by omega
              have hp8 : (0 : Int) ≤ (pn : Int) := by omega
              have hp9 : (pn : Int) < 14 := by omega
              obtain ⟨ad0, rfl, g7⟩ := cellU (show Kd.C (Kd.int .u8) _ A0 row.length row by rw [HNW.out]; exact Kd.C_below C0.out HBI.out) pn (by rw [HNW.out]; exact hp3)
              obtain ⟨x0, hx0⟩ : ∃ x0, row[pn]'(by rw [HNW.out]; exact hp3) = x0 := ⟨_, rfl⟩
              rw [hx0] at g7
              obtain ⟨xb, hxb⟩ : ∃ xb, (x0 == z1) = xb := ⟨_, rfl⟩
              have HS1 : Aside0 (((row.take (pn + 1)).any fun x => x == z1) = (sb || xb)) := ⟨by rw [List.take_add_one, List.getElem?_eq_getElem (by rw [HNW.out]; exact hp3), hx0, List.any_append, ← HSB.out]; simp [hxb]⟩
              clear hx0
              have i4 := (pw_cell_below HBI.out g4)
              have i6 := (pw_cell_below HBI.out g6)
              cases sb
              case false =>
                go_wp2_with fail
                go_quiet (fail)
                go_wp2_with fail
                go_roundw
                case rel => exact ⟨pn + 1, _, by omega, by go_num, rfl, ⟨by rw [HS1.out]; rfl⟩, ⟨HBI.out.trans (pw_below_drewN (Below.refl _ _) _ |>.mono HBI.out.size)⟩⟩
                case measure => simp [intOf]; omega
              case true =>
                go_wp2_with fail
                go_quiet (fail)
                go_wp2_with fail
                go_roundw
                case rel => exact ⟨pn + 1, _, by omega, by go_num, rfl, ⟨by rw [HS1.out]; rfl⟩, ⟨HBI.out.trans (pw_below_drewN (Below.refl _ _) _ |>.mono HBI.out.size)⟩⟩
                case measure => simp [intOf]; omega
            · have hp6 : decide ((pn : Int) < (nw : Int)) = false := decide_eq_false (by omega)
              have hsb : sb = true := by rw [HSB.out, List.take_of_length_le (by rw [HNW.out]; omega), List.any_eq_true]; exact ⟨z1, HMEM.out, by simp⟩
              subst hsb
              clear HSB
              have hp4 : (nw : Int) ≤ (pn : Int) := by omega
              have i4 := (pw_cell_below HBI.out g4)
              have i0 := pw_cell_below HBI.out G0.out
              have i2 := pw_cell_below HBI.out G2.out
              have i3 := pw_cell_below HBI.out G3.out
              have d1 : decide (z0 < lo) = false := decide_eq_false (by omega)
              have d2 : decide (hi < z0) = false := decide_eq_false (by omega)
              have d3 : decide (z0 > hi) = false := decide_eq_false (by omega)
              go_wp2_with fail
              go_quiet (fail)
              have hbq := pw_below_drewN (Below.refl wr.heap.size wr) nq
              replace KB := Aside0.mk (KB.out.trans ((HBI.out.trans (hbq.mono HBI.out.size)).mono KB.out.size))
              replace CS := Aside0.mk (Kd.C_below CS.out (HBI.out.trans (hbq.mono HBI.out.size)))
              replace CZ := Aside0.mk (Kd.C_below CZ.out (HBI.out.trans (hbq.mono HBI.out.size)))
              replace CT := Aside0.mk (Kd.C_below CT.out (HBI.out.trans (hbq.mono HBI.out.size)))
              replace X := Aside0.mk (blk_below X.out (HBI.out.trans (hbq.mono HBI.out.size)))
              replace CR := Aside0.mk (Kd.C_below CR.out (HBI.out.trans (hbq.mono HBI.out.size)))
              replace CL := Aside0.mk (Kd.C_below CL.out (HBI.out.trans (hbq.mono HBI.out.size)))
              replace CQ := Aside0.mk (Kd.C_below CQ.out (HBI.out.trans (hbq.mono HBI.out.size)))
              replace HBM := Aside0.mk (below_step HBM.out (HBI.out.trans (hbq.mono HBI.out.size)))
              clear hbq HBI i4 i0 i2 i3 d1 d2 d3 g4 g6 C0 G0 G2 G3
              generalize wr.drewN nq = w90 at KB CS CZ CT X CR CL CQ HBM ⊢
              have qX0 : w90.cell? ⟨gX, 0, none⟩ = some (.int .i64 L) := (blk_cell X.out 0).trans rfl
              have qX1 : w90.cell? ⟨gX, 1, none⟩ = some (.int .i64 st) := (blk_cell X.out 1).trans rfl
              have qX2 : w90.cell? ⟨gX, 2, none⟩ = some (.slice As n cs) := (blk_cell X.out 2).trans rfl
              have lX := blk_lt X.out
              go_wp2_with fail
              refine (stairs_n L st As cs ss _ n HSL.out CS.out HCS.out (by omega) xs HX.out n HXL.out).mono ?_
              rintro e w91 ⟨⟨A5, c5, rfl, HC5⟩, hb91⟩
              clear qX0 qX1 qX2 lX
              replace KB := Aside0.mk (KB.out.trans (hb91.mono KB.out.size))
              replace CS := Aside0.mk (Kd.C_below CS.out hb91)
              replace CZ := Aside0.mk (Kd.C_below CZ.out hb91)
              replace CT := Aside0.mk (Kd.C_below CT.out hb91)
              replace X := Aside0.mk (blk_below X.out hb91)
              replace CR := Aside0.mk (Kd.C_below CR.out hb91)
              replace CL := Aside0.mk (Kd.C_below CL.out hb91)
              replace CQ := Aside0.mk (Kd.C_below CQ.out hb91)
              replace HBM := Aside0.mk (below_step HBM.out hb91)
              clear hb91
              have qX0 : w91.cell? ⟨gX, 0, none⟩ = some (.int .i64 L) := (blk_cell X.out 0).trans rfl
              have qX1 : w91.cell? ⟨gX, 1, none⟩ = some (.int .i64 st) := (blk_cell X.out 1).trans rfl
              have qX2 : w91.cell? ⟨gX, 2, none⟩ = some (.slice As n cs) := (blk_cell X.out 2).trans rfl
              have lX := blk_lt X.out
              go_wp2_with fail
              refine (rankc_n L st A5 c5 xs (kn : Int) _ n HXL.out HC5.out.1 HC5.out.2).mono ?_
              rintro e w92 ⟨rfl, hb92⟩
              clear qX0 qX1 qX2 lX
              replace KB := Aside0.mk (KB.out.trans (hb92.mono KB.out.size))
              replace CS := Aside0.mk (Kd.C_below CS.out hb92)
              replace CZ := Aside0.mk (Kd.C_below CZ.out hb92)
              replace CT := Aside0.mk (Kd.C_below CT.out hb92)
              replace X := Aside0.mk (blk_below X.out hb92)
              replace CR := Aside0.mk (Kd.C_below CR.out hb92)
              replace CL := Aside0.mk (Kd.C_below CL.out hb92)
              replace CQ := Aside0.mk (Kd.C_below CQ.out hb92)
              replace HBM := Aside0.mk (below_step HBM.out hb92)
              rw [HRA.out, HRB.out, HQ1.out]
              clear HC5
              clear hb92
              have qX0 : w92.cell? ⟨gX, 0, none⟩ = some (.int .i64 L) := (blk_cell X.out 0).trans rfl
              have qX1 : w92.cell? ⟨gX, 1, none⟩ = some (.int .i64 st) := (blk_cell X.out 1).trans rfl
              have qX2 : w92.cell? ⟨gX, 2, none⟩ = some (.slice As n cs) := (blk_cell X.out 2).trans rfl
              have lX := blk_lt X.out
              go_wp2_with fail
              have NBC_X := Aside0.mk lX
              clear qX0 qX1 qX2 lX
              have BC := Aside0.mk (blk_new w92 (.cells #[.int .i64 ra, .int .i64 rb_] 28))
              have hb93 : Below w92.heap.size w92 (w92.alloc (.cells #[.int .i64 ra, .int .i64 rb_] 28)) := (Below.refl _ _).alloc (Nat.le_refl _) _
              replace KB := Aside0.mk (KB.out.trans (hb93.mono KB.out.size))
              replace CS := Aside0.mk (Kd.C_below CS.out hb93)
              replace CZ := Aside0.mk (Kd.C_below CZ.out hb93)
              replace CT := Aside0.mk (Kd.C_below CT.out hb93)
              replace X := Aside0.mk (blk_below X.out hb93)
              replace CR := Aside0.mk (Kd.C_below CR.out hb93)
              replace CL := Aside0.mk (Kd.C_below CL.out hb93)
              replace CQ := Aside0.mk (Kd.C_below CQ.out hb93)
              replace HBM := Aside0.mk (below_step HBM.out hb93)
              clear hb93
              obtain ⟨gBC, hgBC⟩ : ∃ g, w92.heap.size = g := ⟨_, rfl⟩
              rw [hgBC] at BC NBC_X ⊢
              clear hgBC
              generalize w92.alloc (.cells #[.int .i64 ra, .int .i64 rb_] 28) = w93 at BC KB CS CZ CT X CR CL CQ HBM ⊢
              have qX0 : w93.cell? ⟨gX, 0, none⟩ = some (.int .i64 L) := (blk_cell X.out 0).trans rfl
              have qX1 : w93.cell? ⟨gX, 1, none⟩ = some (.int .i64 st) := (blk_cell X.out 1).trans rfl
              have qX2 : w93.cell? ⟨gX, 2, none⟩ = some (.slice As n cs) := (blk_cell X.out 2).trans rfl
              have lX := blk_lt X.out
              have qBC0 : w93.cell? ⟨gBC, 0, none⟩ = some (.int .i64 ra) := (blk_cell BC.out 0).trans rfl
              have qBC1 : w93.cell? ⟨gBC, 1, none⟩ = some (.int .i64 rb_) := (blk_cell BC.out 1).trans rfl
              have lBC := blk_lt BC.out
              go_wp2_with fail
              refine (sorted_n At ct ts _ n HTL.out CT.out (by omega)).mono ?_
              rintro e w94 ⟨⟨A6, c6, rfl, C6⟩, hb94⟩
              clear qX0 qX1 qX2 qBC0 qBC1 lX lBC
              replace KB := Aside0.mk (KB.out.trans (hb94.mono KB.out.size))
              replace CS := Aside0.mk (Kd.C_below CS.out hb94)
              replace CZ := Aside0.mk (Kd.C_below CZ.out hb94)
              replace CT := Aside0.mk (Kd.C_below CT.out hb94)
              replace X := Aside0.mk (blk_below X.out hb94)
              replace CR := Aside0.mk (Kd.C_below CR.out hb94)
              replace CL := Aside0.mk (Kd.C_below CL.out hb94)
              replace CQ := Aside0.mk (Kd.C_below CQ.out hb94)
              replace HBM := Aside0.mk (below_step HBM.out hb94)
              replace BC := Aside0.mk (blk_below BC.out hb94)
              clear hb94
              have qX0 : w94.cell? ⟨gX, 0, none⟩ = some (.int .i64 L) := (blk_cell X.out 0).trans rfl
              have qX1 : w94.cell? ⟨gX, 1, none⟩ = some (.int .i64 st) := (blk_cell X.out 1).trans rfl
              have qX2 : w94.cell? ⟨gX, 2, none⟩ = some (.slice As n cs) := (blk_cell X.out 2).trans rfl
              have lX := blk_lt X.out
              have qBC0 : w94.cell? ⟨gBC, 0, none⟩ = some (.int .i64 ra) := (blk_cell BC.out 0).trans rfl
              have qBC1 : w94.cell? ⟨gBC, 1, none⟩ = some (.int .i64 rb_) := (blk_cell BC.out 1).trans rfl
              have lBC := blk_lt BC.out
              obtain ⟨ad6, rfl, g8⟩ := cellU (show Kd.C (Kd.int .i64) w94 A6 (rising ts).length (rising ts) by rw [(risN ts).trans HTL.out]; exact C6.out) kn (by rw [(risN ts).trans HTL.out]; exact hk3)
              have et : (rising ts)[kn]'(by rw [(risN ts).trans HTL.out]; exact hk3) = t := by have := HT.out; rw [List.getElem?_eq_getElem (by rw [(risN ts).trans HTL.out]; exact hk3)] at this; exact Option.some.inj this
              rw [et] at g8
              clear et
              have d1 : decide (t < ra) = false := decide_eq_false (by omega)
              have d2 : decide (rb_ < t) = false := decide_eq_false (by omega)
              have d3 : decide (t > rb_) = false := decide_eq_false (by omega)
              go_wp2_with fail
              go_roundw
              case rel => exact ⟨kn + 1, by omega, by go_num, HBM⟩
              case measure => simp [intOf]; omega
        · have hk6 : decide ((kn : Int) < (n : Int)) = false := decide_eq_false (by omega)
          have qX0 : wm.cell? ⟨gX, 0, none⟩ = some (.int .i64 L) := (blk_cell X.out 0).trans rfl
          have qX1 : wm.cell? ⟨gX, 1, none⟩ = some (.int .i64 st) := (blk_cell X.out 1).trans rfl
          have qX2 : wm.cell? ⟨gX, 2, none⟩ = some (.slice As n cs) := (blk_cell X.out 2).trans rfl
          have lX := blk_lt X.out
          obtain ⟨m1, hm1⟩ : ∃ m1, (midR L st xs).1 = m1 := ⟨_, rfl⟩
          have HM1 := Aside0.mk hm1
          clear hm1
          obtain ⟨m2, hm2⟩ : ∃ m2, (midR L st xs).2 = m2 := ⟨_, rfl⟩
          have HM2 := Aside0.mk hm2
          clear hm2
          obtain ⟨ev, hev⟩ : ∃ ev, midE L st xs = ev := ⟨_, rfl⟩
          have HEV := Aside0.mk hev
          clear hev
          obtain ⟨mn, hmn⟩ : ∃ mn, (midI (histOf L st rs)).1 = mn := ⟨_, rfl⟩
          have HMN := Aside0.mk hmn
          clear hmn
          obtain ⟨mb, hmb⟩ : ∃ mb, (midI (histOf L st rs)).2 = mb := ⟨_, rfl⟩
          have HMB := Aside0.mk hmb
          clear hmb
          have hmk := HMK.out
          rw [HM1.out, HM2.out, HEV.out, HMN.out, HMB.out] at hmk
          have HMK2 := Aside0.mk hmk
          clear hmk
          go_wp2_with fail
          refine (stairs_n L st As cs ss _ n HSL.out CS.out HCS.out (by omega) xs HX.out n HXL.out).mono ?_
          rintro e w95 ⟨⟨A7, c7, rfl, HC7⟩, hb95⟩
          clear qX0 qX1 qX2 lX
          replace KB := Aside0.mk (KB.out.trans (hb95.mono KB.out.size))
          replace CS := Aside0.mk (Kd.C_below CS.out hb95)
          replace CZ := Aside0.mk (Kd.C_below CZ.out hb95)
          replace CT := Aside0.mk (Kd.C_below CT.out hb95)
          replace X := Aside0.mk (blk_below X.out hb95)
          replace CR := Aside0.mk (Kd.C_below CR.out hb95)
          replace CL := Aside0.mk (Kd.C_below CL.out hb95)
          replace CQ := Aside0.mk (Kd.C_below CQ.out hb95)
          replace HBM := Aside0.mk (below_step HBM.out hb95)
          clear hb95
          have qX0 : w95.cell? ⟨gX, 0, none⟩ = some (.int .i64 L) := (blk_cell X.out 0).trans rfl
          have qX1 : w95.cell? ⟨gX, 1, none⟩ = some (.int .i64 st) := (blk_cell X.out 1).trans rfl
          have qX2 : w95.cell? ⟨gX, 2, none⟩ = some (.slice As n cs) := (blk_cell X.out 2).trans rfl
          have lX := blk_lt X.out
          go_wp2_with fail
          refine (middle_n L st A7 c7 xs _ n HXL.out HC7.out.1 HC7.out.2).mono ?_
          rintro e w96 ⟨rfl, hb96⟩
          clear qX0 qX1 qX2 lX
          replace KB := Aside0.mk (KB.out.trans (hb96.mono KB.out.size))
          replace CS := Aside0.mk (Kd.C_below CS.out hb96)
          replace CZ := Aside0.mk (Kd.C_below CZ.out hb96)
          replace CT := Aside0.mk (Kd.C_below CT.out hb96)
          replace X := Aside0.mk (blk_below X.out hb96)
          replace CR := Aside0.mk (Kd.C_below CR.out hb96)
          replace CL := Aside0.mk (Kd.C_below CL.out hb96)
          replace CQ := Aside0.mk (Kd.C_below CQ.out hb96)
          replace HBM := Aside0.mk (below_step HBM.out hb96)
          rw [HM1.out, HM2.out, HEV.out]
          clear HC7
          clear hb96
          have qX0 : w96.cell? ⟨gX, 0, none⟩ = some (.int .i64 L) := (blk_cell X.out 0).trans rfl
          have qX1 : w96.cell? ⟨gX, 1, none⟩ = some (.int .i64 st) := (blk_cell X.out 1).trans rfl
          have qX2 : w96.cell? ⟨gX, 2, none⟩ = some (.slice As n cs) := (blk_cell X.out 2).trans rfl
          have lX := blk_lt X.out
          go_wp2_with fail
          have NBM_X := Aside0.mk lX
          clear qX0 qX1 qX2 lX
          have BM := Aside0.mk (blk_new w96 (.cells #[.int .i64 m1, .int .i64 m2] 28))
          have hb97 : Below w96.heap.size w96 (w96.alloc (.cells #[.int .i64 m1, .int .i64 m2] 28)) := (Below.refl _ _).alloc (Nat.le_refl _) _
          replace KB := Aside0.mk (KB.out.trans (hb97.mono KB.out.size))
          replace CS := Aside0.mk (Kd.C_below CS.out hb97)
          replace CZ := Aside0.mk (Kd.C_below CZ.out hb97)
          replace CT := Aside0.mk (Kd.C_below CT.out hb97)
          replace X := Aside0.mk (blk_below X.out hb97)
          replace CR := Aside0.mk (Kd.C_below CR.out hb97)
          replace CL := Aside0.mk (Kd.C_below CL.out hb97)
          replace CQ := Aside0.mk (Kd.C_below CQ.out hb97)
          replace HBM := Aside0.mk (below_step HBM.out hb97)
          clear hb97
          obtain ⟨gBM, hgBM⟩ : ∃ g, w96.heap.size = g := ⟨_, rfl⟩
          rw [hgBM] at BM NBM_X ⊢
          clear hgBM
          generalize w96.alloc (.cells #[.int .i64 m1, .int .i64 m2] 28) = w97 at BM KB CS CZ CT X CR CL CQ HBM ⊢
          have qX0 : w97.cell? ⟨gX, 0, none⟩ = some (.int .i64 L) := (blk_cell X.out 0).trans rfl
          have qX1 : w97.cell? ⟨gX, 1, none⟩ = some (.int .i64 st) := (blk_cell X.out 1).trans rfl
          have qX2 : w97.cell? ⟨gX, 2, none⟩ = some (.slice As n cs) := (blk_cell X.out 2).trans rfl
          have lX := blk_lt X.out
          have qBM0 : w97.cell? ⟨gBM, 0, none⟩ = some (.int .i64 m1) := (blk_cell BM.out 0).trans rfl
          have qBM1 : w97.cell? ⟨gBM, 1, none⟩ = some (.int .i64 m2) := (blk_cell BM.out 1).trans rfl
          have lBM := blk_lt BM.out
          go_wp2_with fail
          refine (refmid_n L st As cs ss Ar cr rs _ n HSL.out HRL.out CR.out hL8 hs0 hs1 (by omega) HRS.out).mono ?_
          rintro e w98 ⟨rfl, hb98⟩
          clear qX0 qX1 qX2 qBM0 qBM1 lX lBM
          replace KB := Aside0.mk (KB.out.trans (hb98.mono KB.out.size))
          replace CS := Aside0.mk (Kd.C_below CS.out hb98)
          replace CZ := Aside0.mk (Kd.C_below CZ.out hb98)
          replace CT := Aside0.mk (Kd.C_below CT.out hb98)
          replace X := Aside0.mk (blk_below X.out hb98)
          replace CR := Aside0.mk (Kd.C_below CR.out hb98)
          replace CL := Aside0.mk (Kd.C_below CL.out hb98)
          replace CQ := Aside0.mk (Kd.C_below CQ.out hb98)
          replace HBM := Aside0.mk (below_step HBM.out hb98)
          replace BM := Aside0.mk (blk_below BM.out hb98)
          rw [HMN.out, HMB.out]
          clear hb98
          have qX0 : w98.cell? ⟨gX, 0, none⟩ = some (.int .i64 L) := (blk_cell X.out 0).trans rfl
          have qX1 : w98.cell? ⟨gX, 1, none⟩ = some (.int .i64 st) := (blk_cell X.out 1).trans rfl
          have qX2 : w98.cell? ⟨gX, 2, none⟩ = some (.slice As n cs) := (blk_cell X.out 2).trans rfl
          have lX := blk_lt X.out
          have qBM0 : w98.cell? ⟨gBM, 0, none⟩ = some (.int .i64 m1) := (blk_cell BM.out 0).trans rfl
          have qBM1 : w98.cell? ⟨gBM, 1, none⟩ = some (.int .i64 m2) := (blk_cell BM.out 1).trans rfl
          have lBM := blk_lt BM.out
          cases mb
          case false =>
            go_wp2_with fail
            refine (awake_calls _).mono ?_
            rintro e w99 ⟨rfl, hb99⟩
            clear qX0 qX1 qX2 qBM0 qBM1 lX lBM
            replace KB := Aside0.mk (KB.out.trans (hb99.mono KB.out.size))
            replace CS := Aside0.mk (Kd.C_below CS.out hb99)
            replace CZ := Aside0.mk (Kd.C_below CZ.out hb99)
            replace CT := Aside0.mk (Kd.C_below CT.out hb99)
            replace X := Aside0.mk (blk_below X.out hb99)
            replace CR := Aside0.mk (Kd.C_below CR.out hb99)
            replace CL := Aside0.mk (Kd.C_below CL.out hb99)
            replace CQ := Aside0.mk (Kd.C_below CQ.out hb99)
            replace HBM := Aside0.mk (below_step HBM.out hb99)
            replace BM := Aside0.mk (blk_below BM.out hb99)
            clear hb99
            have qX0 : w99.cell? ⟨gX, 0, none⟩ = some (.int .i64 L) := (blk_cell X.out 0).trans rfl
            have qX1 : w99.cell? ⟨gX, 1, none⟩ = some (.int .i64 st) := (blk_cell X.out 1).trans rfl
            have qX2 : w99.cell? ⟨gX, 2, none⟩ = some (.slice As n cs) := (blk_cell X.out 2).trans rfl
            have lX := blk_lt X.out
            have qBM0 : w99.cell? ⟨gBM, 0, none⟩ = some (.int .i64 m1) := (blk_cell BM.out 0).trans rfl
            have qBM1 : w99.cell? ⟨gBM, 1, none⟩ = some (.int .i64 m2) := (blk_cell BM.out 1).trans rfl
            have lBM := blk_lt BM.out
            go_wp2_with fail
            go_ret
            exact ⟨rfl, KB.out⟩
          case true =>
            obtain ⟨he, h1, h2⟩ := HMK2.out rfl
            subst he
            have d1 : decide (m1 ≤ mn) = true := decide_eq_true h1
            have d2 : decide (mn ≤ m2) = true := decide_eq_true h2
            have d3 : decide (mn ≥ m1) = true := decide_eq_true h1
            go_wp2_with fail
            refine (awake_calls _).mono ?_
            rintro e w100 ⟨rfl, hb100⟩
            clear qX0 qX1 qX2 qBM0 qBM1 lX lBM
            replace KB := Aside0.mk (KB.out.trans (hb100.mono KB.out.size))
            replace CS := Aside0.mk (Kd.C_below CS.out hb100)
            replace CZ := Aside0.mk (Kd.C_below CZ.out hb100)
            replace CT := Aside0.mk (Kd.C_below CT.out hb100)
            replace X := Aside0.mk (blk_below X.out hb100)
            replace CR := Aside0.mk (Kd.C_below CR.out hb100)
            replace CL := Aside0.mk (Kd.C_below CL.out hb100)
            replace CQ := Aside0.mk (Kd.C_below CQ.out hb100)
            replace HBM := Aside0.mk (below_step HBM.out hb100)
            replace BM := Aside0.mk (blk_below BM.out hb100)
            clear hb100
            have qX0 : w100.cell? ⟨gX, 0, none⟩ = some (.int .i64 L) := (blk_cell X.out 0).trans rfl
            have qX1 : w100.cell? ⟨gX, 1, none⟩ = some (.int .i64 st) := (blk_cell X.out 1).trans rfl
            have qX2 : w100.cell? ⟨gX, 2, none⟩ = some (.slice As n cs) := (blk_cell X.out 2).trans rfl
            have lX := blk_lt X.out
            have qBM0 : w100.cell? ⟨gBM, 0, none⟩ = some (.int .i64 m1) := (blk_cell BM.out 0).trans rfl
            have qBM1 : w100.cell? ⟨gBM, 1, none⟩ = some (.int .i64 m2) := (blk_cell BM.out 1).trans rfl
            have lBM := blk_lt BM.out
            go_wp2_with fail
            go_ret
            exact ⟨rfl, KB.out⟩
end Go.Proofs.Ytkglggggmlnleaa.Print
