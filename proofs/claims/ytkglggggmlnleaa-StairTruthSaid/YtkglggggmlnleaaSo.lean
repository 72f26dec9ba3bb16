/- Sorting, and the limit of a rank. -/
import Derived.Test.YtkglggggmlnleaaMi
import Derived.Ground.NamesProg
import Derived.Shelf.Abstract
import Derived.Shelf.Slices.In.SortNone
import Derived.Shelf.Slices.In.SortAlone
import Derived.Shelf.Slices.In.Clone
import Derived.Lib.SortBridge
import Derived.Sort.EveryDepth
namespace Go.Proofs.Ytkglggggmlnleaa.Print
open Go.RowKit Go.Proofs.YtkglggggmlnleaaW.PrintWords Go.Proofs.YtkglggggmlnleaaW.PrintLast Go.Proofs.YtkglggggmlnleaaW.PrintMore
set_option linter.unusedVariables false
set_option linter.unusedSimpArgs false

theorem load_rowL {P : Program} {ops : Array Oper} {Q : Exit → Act → World → Prop} {o : Oper} {rest : List Oper} {a : Act} {W : World} (ty : TypeId) (x : Operand) (ho : o.op = .load ty x) (hgd : o.guard = none) (g : Nat) (hx : a.eval x = .pointer (some ⟨g, 0, none⟩)) (t : TypeId) (cs : Array Value) (fr : Nat × Nat) (d : TypeDesc) (hg : W.heap[g]? = some (.cells cs t fr))
    (hu : P.underlying ty = some d) (hd : (match d with | .struct _ | .array _ _ => true | _ => false) = true) (hi : (P.info? ty).map (·.size) = some cs.size)
    (h : wpList P ops Q rest (a.put o.dst (.agg cs)) W) : wpList P ops Q (o :: rest) a W := by
  refine wpList_plain hgd fun K hK => ?_
  unfold Oper.wp
  have hrun : (execOp a.eval o).run P W = .ok (.value (.agg cs)) W := by
    unfold execOp
    simp only [ho, hx, Instr.loadAt, Instr.sureAddr, Sem.run_bind, Sem.run_pure, Result.andThen_ok, run_loadVar_row W g t ty cs fr d hg hu hd hi]
  rw [hrun]
  exact hK _ _ h
theorem R_ne {k : IntKind} {e : Nat} {w : World} {base : Nat} {ok : Nat → Prop} {v : Value} {xs : List Int} {g t : Nat} {cs : Array Value} (h : Kd.R (Kd.int k) e w base ok v xs) (hb : w.heap[g]? = some (.cells cs t (0, 0))) (ht : t ≠ e) : some g ≠ v.ownBlock := fun e' => by
  obtain ⟨_, _, _, q, hq, cells, hc⟩ := (Kd.R_bound h).1 g e'.symm
  rw [hb] at hc
  have hq' : q = e := by simpa [Kd.int, Kd.scalar] using hq
  subst hq'
  injection hc with hc
  injection hc with _ h2 _
  exact ht h2
/-- The bounds of a specimen. -/
def bnd (L : Int) (p : Int × Int) : Int × Int := if p.1 = 0 then (0, p.2) else if p.1 = 1 then (p.2 + 1, L) else (0, L)
set_option maxHeartbeats 4000000 in
set_option maxRecDepth 100000 in
theorem bnd_calls (L st : Int) (A : Option Addr) (c : Nat) (h : List (Int × Int)) (i : Nat) (w : World) (h14 : h.length ≤ 14) (hi : i < h.length) (hd : 0 ≤ h[i].2 ∧ h[i].2 ≤ 8) :
    Calls Try.prog 74 #[hval L st A h.length c h, .int .i64 i] w fun e w' => e = .returned (.agg #[.int .i64 (bnd L h[i]).1, .int .i64 (bnd L h[i]).2]) ∧ Below w.heap.size w w' := by
  have hu34 := Try.underlying34
  have hu28 := Try.underlying28
  have hu88 := Try.underlying88
  have hu85 := Try.underlying85
  have hu86 := Try.underlying86
  obtain ⟨cs, hcs⟩ : ∃ cs, (hcells L st A h.length c h).toArray = cs := ⟨_, rfl⟩
  have q0 : cs[0]? = some (.int .i64 L) := by rw [← hcs]; rfl
  have q3 : cs[3 + i]? = some (.int .u8 h[i].1) := by rw [← hcs]; exact hcells_did L st A h.length c h i hi h14
  have q17 : cs[17 + i]? = some (.int .i64 h[i].2) := by rw [← hcs]; exact hcells_level L st A h.length c h i hi h14
  have hi14 : (i : Int) < 14 := by omega
  have hi0 : (0 : Int) ≤ (i : Int) := by omega
  unfold hval
  rw [hcs]
  clear hcs
  obtain ⟨d, hdd⟩ : ∃ d, h[i].1 = d := ⟨_, rfl⟩
  obtain ⟨v, hvv⟩ : ∃ v, h[i].2 = v := ⟨_, rfl⟩
  have hb : bnd L h[i] = if d = 0 then (0, v) else if d = 1 then (v + 1, L) else (0, L) := by unfold bnd; rw [hdd, hvv]
  rw [hdd] at q3
  rw [hvv] at q17 hd
  have HB := Aside0.mk hb
  clear hb hdd hvv
  have e1 : wrap64 (v + 1) = v + 1 := by unfold wrap64; omega
  by_cases h0 : d = 0
  · have h0b : (d == 0) = true := beq_iff_eq.2 h0
    have H0 := Aside0.mk h0
    clear h0
    go_enter Try.func74, Try.ntmps74
    go_wp2_with fail
    refine bodyPost_ret (v := .agg #[.int .i64 (0), .int .i64 (v)]) (by simp [results, Try.f74, go_sem]) rfl ⟨?_, ?_⟩
    · rw [HB.out, if_pos H0.out]
    · repeat (first | exact Below.refl _ _ | refine below_set ?_ (by simp) | refine Below.alloc ?_ (by simp) _)
  · have h0b : (d == 0) = false := beq_eq_false_iff_ne.2 h0
    have H0 := Aside0.mk h0
    clear h0
    by_cases h1 : d = 1
    · have h1b : (d == 1) = true := beq_iff_eq.2 h1
      have H1 := Aside0.mk h1
      clear h1
      go_enter Try.func74, Try.ntmps74
      go_wp2_with fail
      refine bodyPost_ret (v := .agg #[.int .i64 (v + 1), .int .i64 (L)]) (by simp [results, Try.f74, go_sem]) rfl ⟨?_, ?_⟩
      · rw [HB.out, if_neg H0.out, if_pos H1.out]
      · repeat (first | exact Below.refl _ _ | refine below_set ?_ (by simp) | refine Below.alloc ?_ (by simp) _)
    · have h1b : (d == 1) = false := beq_eq_false_iff_ne.2 h1
      have H1 := Aside0.mk h1
      clear h1
      go_enter Try.func74, Try.ntmps74
      go_wp2_with fail
      refine bodyPost_ret (v := .agg #[.int .i64 (0), .int .i64 (L)]) (by simp [results, Try.f74, go_sem]) rfl ⟨?_, ?_⟩
      · rw [HB.out, if_neg H0.out, if_neg H1.out]
      · repeat (first | exact Below.refl _ _ | refine below_set ?_ (by simp) | refine Below.alloc ?_ (by simp) _)

def limit (L : Int) (high : Bool) (p : Int × Int) : Int := if high then (bnd L p).2 else (bnd L p).1
set_option maxHeartbeats 4000000 in
set_option maxRecDepth 100000 in
theorem limits_calls (L st : Int) (A : Option Addr) (c : Nat) (h : List (Int × Int)) (high : Bool) (w : World) (h14 : h.length ≤ 14) (hd : ∀ p ∈ h, 0 ≤ p.2 ∧ p.2 ≤ 8) :
    Calls Try.prog 54 #[hval L st A h.length c h, .bool high] w fun e w' => ∃ v, e = .returned v ∧ Kd.R (Kd.int .i64) 3 w' w.heap.size (fun _ => True) v (h.map (limit L high)) ∧ Below w.heap.size w w' := by
  have hu34 := Try.underlying34
  have hu28 := Try.underlying28
  have hu88 := Try.underlying88
  obtain ⟨cs, hcs⟩ : ∃ cs, (hcells L st A h.length c h).toArray = cs := ⟨_, rfl⟩
  have q2 : cs[2]? = some (.slice A h.length c) := by rw [← hcs]; rfl
  have HCS := Aside0.mk hcs
  obtain ⟨v, hv⟩ : ∃ v, hval L st A h.length c h = v := ⟨_, rfl⟩
  have hv2 : v = .agg cs := by rw [← hv, ← hcs]; rfl
  have HV := Aside0.mk hv
  rw [hv, hv2]
  have HV2 := Aside0.mk hv2
  clear hcs hv hv2
  go_enter Try.func54, Try.ntmps54
  go_wp2_with fail
  go_loopw [4, 11] (fun o j wr => ∃ jn : Nat, jn ≤ h.length ∧ j = .int .i64 jn ∧ Aside0 (Kd.R (Kd.int .i64) 3 wr w.heap.size (fun _ => True) o ((h.take jn).map (limit L high))) ∧ Aside0 (wr.heap[w.heap.size]? = some (.cells cs 88 (0, 0))) ∧ Aside0 (Below w.heap.size w wr)) (fun _ j _ => h.length - (intOf j).toNat)
  case atStart => exact ⟨0, by omega, rfl, ⟨Kd.R_nil _ _ _ _ _⟩, ⟨blk_new w _⟩, ⟨(Below.refl _ _).alloc (Nat.le_refl _) _⟩⟩
  case round =>
    obtain ⟨jn, hj, rfl, ho, hbx, hbw⟩ := hrel
    by_cases hj3 : jn < h.length
    · have hj4 : (jn : Int) < (h.length : Int) := by omega
      have hj5 : (0 : Int) ≤ (jn : Int) := by omega
      have hj6 : decide ((jn : Int) < (h.length : Int)) = true := decide_eq_true hj4
      have hsz : cs.size = 31 := by rw [← HCS.out]; simp [hcells_len L st A h.length c h h14]
      have HSZ := Aside0.mk hsz
      clear hsz
      have BC := Aside0.mk (bnd_calls L st A c h jn wr h14 hj3 (hd _ (List.getElem_mem hj3)))
      rw [HV.out, HV2.out] at BC
      cases high with
      | true =>
        go_wp2_with (first | ((with_reducible refine gate_dst (N := 14) rfl ?_); refine load_rowL 88 (.tmp 2) rfl rfl w.heap.size rfl 88 cs (0, 0) _ hbx.out Try.underlying88 rfl (by rw [HSZ.out]; exact size88) ?_) | (go_at_call 74; refine BC.out.mono ?_; rintro e w5 ⟨rfl, hb5⟩; have HB5 := Aside0.mk hb5; have HLE := Aside0.mk (Nat.le_trans hbw.out.size hb5.size); have HBX5 := Aside0.mk (blk_below hbx.out hb5); clear hb5; generalize hbl : (bnd L h[jn]).1 = bl; generalize hbh : (bnd L h[jn]).2 = bh; have HBL := Aside0.mk (And.intro hbl hbh); clear hbl hbh) | ((with_reducible refine gate_builtin (b := .append) (xs := #[.tmp 18, .tmp 21]) rfl ?_); at_builtin; refine Kd.R_append (Kd.int .i64) (w0 := w) w.heap.size rfl (.tmp 18) (.tmp 21) 48 3 (.int .i64 0) 8 rfl Try.underlying48 info3 rfl (by decide) (by omega) _ ((h.take jn).map (limit L true)) bh [.int .i64 bh] (fun _ => True) (fun _ => False) rfl (by simp [Act.eval]) rfl (fun _ hk => hk.elim) (fun _ _ => trivial) (Kd.R_alloc (Kd.R_below ho.out HB5.out) _) ((hbw.out.trans (HB5.out.mono hbw.out.size)).alloc HLE.out _) (by simp; exact Nat.le_trans HLE.out (Nat.le_succ _)) (by simp; omega) ?_; intro v7 w8 ho2 hb2 hg2 hat2; have HO2 := Aside0.mk ho2; have HB8 := Aside0.mk hb2; have HBX8 := Aside0.mk (blk_grown (blk_alloc HBX5.out _) hg2 (R_ne ho.out hbx.out (by decide))); clear ho2 hb2 hg2 hat2))
        go_roundw
        case rel =>
          refine ⟨jn + 1, by omega, by push_cast; first | rfl | go_num, ⟨?_⟩, ⟨?_⟩, HB8⟩
          · rw [List.take_add_one, List.getElem?_eq_getElem hj3, List.map_append]
            have e : limit L true h[jn] = bh := by unfold limit; exact HBL.out.2
            simp only [Option.toList, List.map_cons, List.map_nil, e]
            exact HO2.out
          · exact HBX8.out
        case measure => simp [intOf]; omega
      | false =>
        go_wp2_with (first | ((with_reducible refine gate_dst (N := 14) rfl ?_); refine load_rowL 88 (.tmp 2) rfl rfl w.heap.size rfl 88 cs (0, 0) _ hbx.out Try.underlying88 rfl (by rw [HSZ.out]; exact size88) ?_) | (go_at_call 74; refine BC.out.mono ?_; rintro e w5 ⟨rfl, hb5⟩; have HB5 := Aside0.mk hb5; have HLE := Aside0.mk (Nat.le_trans hbw.out.size hb5.size); have HBX5 := Aside0.mk (blk_below hbx.out hb5); clear hb5; generalize hbl : (bnd L h[jn]).1 = bl; generalize hbh : (bnd L h[jn]).2 = bh; have HBL := Aside0.mk (And.intro hbl hbh); clear hbl hbh) | ((with_reducible refine gate_builtin (b := .append) (xs := #[.tmp 23, .tmp 26]) rfl ?_); at_builtin; refine Kd.R_append (Kd.int .i64) (w0 := w) w.heap.size rfl (.tmp 23) (.tmp 26) 48 3 (.int .i64 0) 8 rfl Try.underlying48 info3 rfl (by decide) (by omega) _ ((h.take jn).map (limit L false)) bl [.int .i64 bl] (fun _ => True) (fun _ => False) rfl (by simp [Act.eval]) rfl (fun _ hk => hk.elim) (fun _ _ => trivial) (Kd.R_alloc (Kd.R_below ho.out HB5.out) _) ((hbw.out.trans (HB5.out.mono hbw.out.size)).alloc HLE.out _) (by simp; exact Nat.le_trans HLE.out (Nat.le_succ _)) (by simp; omega) ?_; intro v7 w8 ho2 hb2 hg2 hat2; have HO2 := Aside0.mk ho2; have HB8 := Aside0.mk hb2; have HBX8 := Aside0.mk (blk_grown (blk_alloc HBX5.out _) hg2 (R_ne ho.out hbx.out (by decide))); clear ho2 hb2 hg2 hat2))
        go_roundw
        case rel =>
          refine ⟨jn + 1, by omega, by push_cast; first | rfl | go_num, ⟨?_⟩, ⟨?_⟩, HB8⟩
          · rw [List.take_add_one, List.getElem?_eq_getElem hj3, List.map_append]
            have e : limit L false h[jn] = bl := by unfold limit; exact HBL.out.1
            simp only [Option.toList, List.map_cons, List.map_nil, e]
            exact HO2.out
          · exact HBX8.out
        case measure => simp [intOf]; omega
    · have hj4 : (h.length : Int) ≤ (jn : Int) := by omega
      have hj6 : decide ((jn : Int) < (h.length : Int)) = false := decide_eq_false (by omega)
      have htk : h.take jn = h := List.take_of_length_le (by omega)
      rw [htk] at ho
      go_wp2_with fail
      go_ret
      exact ⟨_, rfl, ho.out, hbw.out⟩
end Go.Proofs.Ytkglggggmlnleaa.Print
namespace Go.Proofs
open Go.Shelf
def Try.laysSort_ren : Go.Shelf.Ren := ⟨fun
  | 189 => 86 | 125 => 84 | 257 => 100 | 128 => 98 | 129 => 99 | 294 => 107 | 295 => 108 | 296 => 109 | 297 => 110 | 298 => 111 | 299 => 112 | 216 => 113 | 300 => 114 | 301 => 115 | 328 => 117 | 329 => 102 | 330 => 103 | 331 => 118 | 332 => 119 | 215 => 120 | 343 => 121 | n => n,
  fun | 28 => 48 | 3 => 3 | 46 => 116 | 0 => 0 | 51 => 140 | 53 => 142 | 4 => 4 | 183 => 133 | 182 => 132 | 131 => 39 | 5 => 5 | 9 => 9 | 218 => 144 | 222 => 148 | 228 => 156 | 229 => 157 | n => n,
  fun | n => n⟩
theorem Try.laysSort : Go.Proofs.Lays.n189 Try.prog Try.laysSort_ren := {
  mixed := by kernel_rfl,
  f125 := Try.func84.trans (congrArg some (by kernel_rfl)),
  f128 := Try.func98.trans (congrArg some (by kernel_rfl)),
  f129 := Try.func99.trans (congrArg some (by kernel_rfl)),
  f189 := Try.func86.trans (congrArg some (by kernel_rfl)),
  f215 := Try.func120.trans (congrArg some (by kernel_rfl)),
  f216 := Try.func113.trans (congrArg some (by kernel_rfl)),
  f257 := Try.func100.trans (congrArg some (by kernel_rfl)),
  f294 := Try.func107.trans (congrArg some (by kernel_rfl)),
  f295 := Try.func108.trans (congrArg some (by kernel_rfl)),
  f296 := Try.func109.trans (congrArg some (by kernel_rfl)),
  f297 := Try.func110.trans (congrArg some (by kernel_rfl)),
  f298 := Try.func111.trans (congrArg some (by kernel_rfl)),
  f299 := Try.func112.trans (congrArg some (by kernel_rfl)),
  f300 := Try.func114.trans (congrArg some (by kernel_rfl)),
  f301 := Try.func115.trans (congrArg some (by kernel_rfl)),
  f328 := Try.func117.trans (congrArg some (by kernel_rfl)),
  f329 := Try.func102.trans (congrArg some (by kernel_rfl)),
  f330 := Try.func103.trans (congrArg some (by kernel_rfl)),
  f331 := Try.func118.trans (congrArg some (by kernel_rfl)),
  f332 := Try.func119.trans (congrArg some (by kernel_rfl)),
  f343 := Try.func121.trans (congrArg some (by kernel_rfl)),
  t0 := Try.underlying0,
  a0 := Try.isAgg0,
  z0 := Try.sizeOf0,
  v0 := Try.zeroValue0,
  t3 := Try.underlying3,
  a3 := Try.isAgg3,
  z3 := Try.sizeOf3,
  v3 := Try.zeroValue3,
  t4 := Try.underlying4,
  a4 := Try.isAgg4,
  z4 := Try.sizeOf4,
  v4 := Try.zeroValue4,
  t5 := Try.underlying5,
  a5 := Try.isAgg5,
  z5 := Try.sizeOf5,
  v5 := Try.zeroValue5,
  t9 := Try.underlying9,
  a9 := Try.isAgg9,
  z9 := Try.sizeOf9,
  v9 := Try.zeroValue9,
  t28 := Try.underlying48,
  a28 := Try.isAgg48,
  z28 := Try.sizeOf48,
  v28 := Try.zeroValue48,
  t46 := Try.underlying116,
  a46 := Try.isAgg116,
  z46 := Try.sizeOf116,
  v46 := Try.zeroValue116,
  t51 := Try.underlying140,
  a51 := Try.isAgg140,
  z51 := Try.sizeOf140,
  v51 := Try.zeroValue140,
  t53 := Try.underlying142,
  a53 := Try.isAgg142,
  z53 := Try.sizeOf142,
  v53 := Try.zeroValue142,
  t131 := Try.underlying39,
  a131 := Try.isAgg39,
  z131 := Try.sizeOf39,
  v131 := Try.zeroValue39,
  t182 := Try.underlying132,
  a182 := Try.isAgg132,
  z182 := Try.sizeOf132,
  v182 := Try.zeroValue132,
  t183 := Try.underlying133,
  a183 := Try.isAgg133,
  z183 := Try.sizeOf133,
  v183 := Try.zeroValue133,
  t218 := Try.underlying144,
  a218 := Try.isAgg144,
  z218 := Try.sizeOf144,
  v218 := Try.zeroValue144,
  t222 := Try.underlying148,
  a222 := Try.isAgg148,
  z222 := Try.sizeOf148,
  v222 := Try.zeroValue148,
  t228 := Try.underlying156,
  a228 := Try.isAgg156,
  z228 := Try.sizeOf156,
  v228 := Try.zeroValue156,
  t229 := Try.underlying157,
  a229 := Try.isAgg157,
  z229 := Try.sizeOf157,
  v229 := Try.zeroValue157 }
def Try.laysClone_ren : Go.Shelf.Ren := ⟨fun
  | 15 => 85 | n => n,
  fun | 22 => 48 | 3 => 3 | 4 => 4 | n => n,
  fun | n => n⟩
theorem Try.laysClone : Go.Proofs.Lays2.n15 Try.prog Try.laysClone_ren := {
  mixed := by kernel_rfl,
  f15 := Try.func85.trans (congrArg some (by kernel_rfl)),
  t3 := Try.underlying3,
  a3 := Try.isAgg3,
  z3 := Try.sizeOf3,
  v3 := Try.zeroValue3,
  t4 := Try.underlying4,
  a4 := Try.isAgg4,
  z4 := Try.sizeOf4,
  v4 := Try.zeroValue4,
  t22 := Try.underlying48,
  a22 := Try.isAgg48,
  z22 := Try.sizeOf48,
  v22 := Try.zeroValue48,
  i3 := by kernel_rfl }
end Go.Proofs
namespace Go.Proofs.Ytkglggggmlnleaa.Print
open Go.RowKit Go.Sort Go.Shelf Go.Proofs.YtkglggggmlnleaaW.PrintWords Go.Proofs.YtkglggggmlnleaaW.PrintLast Go.Proofs.YtkglggggmlnleaaW.PrintMore
set_option linter.unusedVariables false
set_option linter.unusedSimpArgs false

/-- In rising order. -/
def rising (l : List Int) : List Int := l.mergeSort fun x y => decide (x ≤ y)
theorem rising_length (l : List Int) : (rising l).length = l.length := List.length_mergeSort l
theorem clone_calls (b off c : Nat) (zs : List Int) (w : World) (h14 : zs.length ≤ 1000) (hc : ∀ j, j < zs.length → w.cell? ⟨b, off + j, none⟩ = some (.int .i64 (zs.getD j 0))) :
    Calls Try.prog 85 #[.slice (some ⟨b, off, none⟩) zs.length c] w fun e w' => ∃ v', e = .returned v' ∧ Kd.R (Kd.int .i64) 3 w' w.heap.size (fun _ => True) v' zs ∧ v' ≠ .slice none 0 0 ∧ Below w.heap.size w w' := by
  refine (calls_of_every_depth fun D => AnyS.slices_Clone_int_in Try.laysClone D b off zs.length c zs w (Nat.le_refl _) (by omega) hc).mono ?_
  rintro e w' ⟨v', rfl, h1, h2, h3⟩
  rw [List.take_length] at h1
  exact ⟨v', rfl, Kd.R_of_own h1 (fun _ _ => trivial), h2, h3⟩
theorem sort_calls (g c : Nat) (zs : List Int) (w : World) (h14 : zs.length ≤ 1000) (hg : g < w.heap.size) (hc : ∀ j, j < zs.length → w.cell? ⟨g, j, none⟩ = some (.int .i64 (zs.getD j 0)) ∧ w.frozen? ⟨g, j, none⟩ = false) :
    Calls Try.prog 86 #[.slice (some ⟨g, 0, none⟩) zs.length c] w fun e w' => e = .returned (.tuple #[]) ∧ (∀ j, j < zs.length → w'.cell? ⟨g, j, none⟩ = some (.int .i64 ((rising zs).getD j 0))) ∧ Ch (· = g) w w' := by
  have hc0 : ∀ j, j < zs.length → w.cell? ⟨g, 0 + j, none⟩ = some (.int .i64 (zs.getD j 0)) := fun j hj => by rw [Nat.zero_add]; exact (hc j hj).1
  have hH := Lib.holds_of_ints (w := w) (b := g) (off := 0) (n := zs.length) (zs := zs) (Nat.le_refl _) hc0 (fun j hj => by rw [Nat.zero_add]; exact (hc j hj).2)
  rw [List.take_length] at hH
  refine (calls_of_every_depth fun D => AnyS.slices_Sort_int_alone Try.laysSort D g 0 c zs w hH hg (by omega)).mono ?_
  rintro e w' ⟨rfl, q, os, rfl⟩
  rw [Lib.sorted_world _ w g 0 q _ _ os hH (by simp)]
  refine ⟨rfl, ?_, ?_⟩
  · intro j hj
    have := Lib.cells_sorted_ints (W := w) (b := g) (off := 0) (n := zs.length) (q := q) (zs := zs) (ys := rising zs) (os := os) (Nat.le_refl _) (rising_length zs) hc0 j (by simp [rising_length]; exact hj)
    rw [Nat.zero_add, List.drop_length, List.append_nil] at this
    exact this
  · have hs : ∀ (vs : List Value) (o : Nat) (W : World), Ch (· = g) w W → Ch (· = g) w (W.setCells g o vs) := by
      intro vs
      induction vs with
      | nil => intro o W h; exact h
      | cons v r ih => intro o W h; exact ih (o + 1) _ (h.setCell _ _ (fun _ => rfl))
    have h1 := hs (List.map (Value.int .i64) (zs.mergeSort fun x y => decide (x ≤ y))) 0 (w.drewN q) ((Ch.refl _ w).drewN q)
    refine h1.trans ⟨rfl, rfl, rfl, by simp [grow], fun i hi _ => ?_⟩
    exact heap_grow_old _ os hi

set_option maxHeartbeats 2000000 in
set_option maxRecDepth 100000 in
theorem ranked_calls (v : Value) (l : List Int) (rank : Int) (w : World) (base : Nat) (ok : Nat → Prop) (hr : Kd.R (Kd.int .i64) 3 w base ok v l) (h0 : 0 ≤ rank) (h1 : rank < l.length) (h14 : l.length ≤ 14) :
    Calls Try.prog 73 #[v, .int .i64 rank] w fun e w' => e = .returned (.int .i64 ((rising l).getD rank.toNat 0)) ∧ Below w.heap.size w w' := by
  obtain ⟨g, c, rfl, hg1, hg2, cells, hcells⟩ := Kd.R_form hr (by omega)
  have hcl : ∀ j, j < l.length → w.cell? ⟨g, 0 + j, none⟩ = some (.int .i64 (l.getD j 0)) := fun j hj => by
    have := (Kd.R_celln (0 : Int) hr j (by omega) (by omega)).1
    rw [Nat.zero_add]
    simpa [rdOf] using this
  go_enter Try.func73, Try.ntmps73
  go_wp2_with fail
  refine (clone_calls g 0 c l w (by omega) hcl).mono ?_
  rintro e w2 ⟨v2, rfl, hr2, hnn, hb2⟩
  obtain ⟨g2, c2, rfl, hg3, hg4, cells2, hcells2⟩ := Kd.R_form hr2 (by omega)
  have hcl2 : ∀ j, j < l.length → w2.cell? ⟨g2, j, none⟩ = some (.int .i64 (l.getD j 0)) ∧ w2.frozen? ⟨g2, j, none⟩ = false := fun j hj => by
    have := Kd.R_celln (0 : Int) hr2 j (by omega) (by omega)
    simpa [rdOf] using this
  have HS := Aside0.mk (sort_calls g2 c2 l w2 (by omega) hg4 hcl2)
  have HB2 := Aside0.mk hb2
  clear hr2 hnn hb2 hcells2 hcl2 hcl hr hcells
  go_wp2_with fail
  refine HS.out.mono ?_
  rintro e w3 ⟨rfl, hs3, hch3⟩
  have q := hs3 rank.toNat (by omega)
  have HC := Aside0.mk hch3
  clear hs3 hch3
  go_wp2_with fail
  go_ret
  exact ⟨rfl, HB2.out.trans (HC.out.below (by have := HB2.out.size; omega) (fun i hi e => by have e : i = g2 := e; omega))⟩
end Go.Proofs.Ytkglggggmlnleaa.Print
