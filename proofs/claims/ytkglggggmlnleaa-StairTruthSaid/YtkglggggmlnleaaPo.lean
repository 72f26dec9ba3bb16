/- Whether a staircase is possible. -/
import Derived.Test.YtkglggggmlnleaaM3
import Derived.TacticsInMore
namespace Go.Proofs.Ytkglggggmlnleaa.Print
open Go.RowKit Go.Shelf Go.Proofs.YtkglggggmlnleaaW.PrintWords Go.Proofs.YtkglggggmlnleaaW.PrintLast Go.Proofs.YtkglggggmlnleaaW.PrintMore
set_option linter.unusedVariables false
set_option linter.unusedSimpArgs false
attribute [local go_sem] Oper.semAt_some

theorem check_ok {L st : Int} {l : List S67} (h : checkI L st l = 0) : 1 ≤ L ∧ L ≤ 8 ∧ 0 ≤ st ∧ st < L ∧ l.length ≤ 14 := by
  unfold checkI at h
  split at h
  · cases h
  · rename_i h1
    split at h
    · cases h
    · rename_i h2
      refine ⟨?_, ?_, ?_, ?_, ?_⟩ <;> first | omega | (have : 1 ≤ L ∧ L ≤ 8 ∧ 0 ≤ st ∧ st < L := Classical.byContradiction fun h => h2 (.inl h); omega)
theorem C67_lt {w : World} {A : Option Addr} {n : Nat} {xs : List S67} (h : Kd.C k67 w A n xs) {ad : Addr} (e : A = some ad) (hn : 0 < n) : ad.block < w.heap.size := by
  obtain ⟨h1, _, h3⟩ := h
  obtain ⟨ad', e', hh⟩ := h3 hn
  rw [e] at e'; cases e'
  obtain ⟨cs, hs, _, hcell⟩ := hh 0 _ (List.getElem?_eq_getElem (by omega))
  have h2 : 0 < cs.length := by rw [hs]; decide
  have := World.block_lt_of_cell? _ _ (hcell 0 _ (List.getElem?_eq_getElem h2))
  rwa [C67_block.add_block] at this
/-- The error of a staircase that has to be possible. -/
def possI (L st : Int) (l : List S67) : Int := if checkI L st l = 0 then (if hists L st l = [] then 9 else 0) else checkI L st l

set_option maxHeartbeats 2000000 in
set_option maxRecDepth 100000 in
theorem possible_calls (L st : Int) (A : Option Addr) (c : Nat) (l : List S67) (w : World) (hr : Kd.C k67 w A l.length l) (hc : l.length ≤ c) :
    Calls Try.prog 45 #[.agg #[.int .i64 L, .int .i64 st, .slice A l.length c]] w fun e w' => e = .returned (.int .i64 (possI L st l)) ∧ Below w.heap.size w w' := by
  have hu34 := Try.underlying34
  have HR := Aside0.mk hr
  have HC := Aside0.mk hc
  clear hr hc
  refine (callsIn_wide (n := 0)).1 ?_
  refine callsIn_of_wp_marks Try.func45 rfl trivial ?_ rfl
  simp only [Try.ntmps45, List.size_toArray, List.length_cons, List.length_nil, Nat.reduceAdd, Nat.reduceSub, Array.replicate_succ, Array.replicate_zero, List.push_toArray, List.append_toArray, List.nil_append, List.cons_append]
  have hb1 : Below w.heap.size w ((w.alloc (.cells #[.int .i64 L, .int .i64 st, .slice A l.length c] 34)).alloc (.cells #[.int .i64 0] 29)) := ((Below.refl _ w).alloc (by simp) _).alloc (by simp) _
  have HB1 := Aside0.mk hb1
  clear hb1
  have hbx : ((w.alloc (.cells #[.int .i64 L, .int .i64 st, .slice A l.length c] 34)).alloc (.cells #[.int .i64 0] 29)).heap[w.heap.size]? = some (.cells #[.int .i64 L, .int .i64 st, .slice A l.length c] 34 (0, 0)) := blk_alloc (new_at rfl) _
  have hby : ((w.alloc (.cells #[.int .i64 L, .int .i64 st, .slice A l.length c] 34)).alloc (.cells #[.int .i64 0] 29)).heap[w.heap.size + 1]? = some (.cells #[.int .i64 0] 29 (0, 0)) := new_at (by simp)
  have HBX := Aside0.mk hbx
  have HBY := Aside0.mk hby
  clear hbx hby
  gi_wp2_with fail
  refine ⟨trivial, rfl, (callsIn_wide.2 (check_calls L st A c l _ (Kd.C_below HR.out HB1.out) HC.out (Kd.C_max HR.out))).mono ?_⟩
  rintro e w2 ⟨rfl, hb2⟩
  have HB2 := Aside0.mk (HB1.out.trans (hb2.mono HB1.out.size))
  have HBX2 := Aside0.mk (blk_below HBX.out hb2)
  have HBY2 := Aside0.mk (blk_below HBY.out hb2)
  clear hb2 HB1 HBX HBY
  have q0 : w2.cell? ⟨w.heap.size, 0, none⟩ = some (.int .i64 L) := (blk_cell HBX2.out 0).trans rfl
  have q1 : w2.cell? ⟨w.heap.size, 1, none⟩ = some (.int .i64 st) := (blk_cell HBX2.out 1).trans rfl
  have q2 : w2.cell? ⟨w.heap.size, 2, none⟩ = some (.slice A l.length c) := (blk_cell HBX2.out 2).trans rfl
  have q3 : w2.cell? ⟨w.heap.size + 1, 0, none⟩ = some (.int .i64 0) := (blk_cell HBY2.out 0).trans rfl
  have q4 := blk_frozen HBY2.out 0
  obtain ⟨ck, hck⟩ : ∃ ck, checkI L st l = ck := ⟨_, rfl⟩
  rw [hck]
  have HCK := Aside0.mk hck
  clear hck
  by_cases h0 : ck = 0
  · subst h0
    gi_wp2_with fail
    refine ⟨trivial, rfl, (callsIn_wide.2 (histories_calls L st A c l _ (Kd.C_below HR.out HB2.out) HC.out)).mono ?_⟩
    rintro e w3 ⟨bs, bm, bk, bc, km, rfl, hI, hb3, hg1, hg2, hg3, hg4, hg5⟩
    gi_wp2_with fail
    have HI := Aside0.mk hI
    have HBY3 := Aside0.mk (blk_below HBY2.out hb3)
    have HB3 := Aside0.mk (HB2.out.trans (hb3.mono HB2.out.size))
    have hlt3 := blk_lt HBY3.out
    have hlt2 := blk_lt HBY2.out
    have hlt3' := blk_lt (blk_below HBX2.out hb3)
    clear hI hb3 q0 q1 q2 q3 q4
    obtain ⟨k1, k2, k3, k4, k5⟩ := check_ok HCK.out
    have hAd : ∀ ad, A = some ad → 0 < l.length → ad.block < w.heap.size := fun ad e h => C67_lt HR.out e h
    refine wpIn_hist L st A c l bs bm bk bc km rfl k1 k2 k3 k4 k5 HI.out (fun b => b = w.heap.size + 1) (by rintro b rfl; exact ⟨hlt3, by omega, by omega, by omega, by omega, by omega, fun ad e h => by have := hAd ad e h; omega⟩)
      (fun pre W => pre = [] ∧ W.heap[w.heap.size + 1]? = some (.cells #[.int .i64 0] 29 (0, 0))) (fun k pre W => k = .ret ∧ pre ≠ [] ∧ W.heap[w.heap.size + 1]? = some (.cells #[.int .i64 0] 29 (0, 0)))
      (fun pre W W' hr hk => ⟨hr.1, (hk _ hlt3 (by omega)).trans hr.2⟩) (fun k pre W W' hr hk => ⟨hr.1, hr.2.1, (hk _ hlt3 (by omega)).trans hr.2.2⟩) ⟨rfl, HBY3.out⟩
      (fun x a' W => a' = { tmps := #[.agg #[.int .i64 L, .int .i64 st, .slice A l.length c], .pointer (some ⟨w.heap.size, 0, none⟩), .pointer (some ⟨w.heap.size + 1, 0, none⟩), .int .i64 0, .agg #[.int .i64 L, .int .i64 st, .slice A l.length c], .int .i64 0, .int .i64 0, .bool false, undef, .agg #[.int .i64 L, .int .i64 st, .slice A l.length c], .func (.func 69) #[] #[.pointer (some ⟨bs, 0, none⟩), .pointer (some ⟨bm, 0, none⟩), .pointer (some ⟨bc, 0, none⟩)], hval L st A l.length c x], defers := [] }) (fun x a' W o h => h) ?assign ?body ?done ?stop
    case assign =>
      intro x W m K hlt hx hK
      gi_wp2_with fail
      exact hK _ _ (Below.refl _ _) (by simp)
    case body =>
      rintro pre x a' W m hlt hch ⟨rfl, hcell⟩ rfl hpre hx
      have q3 : W.cell? ⟨w.heap.size + 1, 0, none⟩ = some (.int .i64 0) := (blk_cell hcell 0).trans rfl
      have q4 := blk_frozen hcell 0
      gi_wp2_with fail
      exact ⟨(Ch.refl _ _).setCell _ _ (fun _ => rfl), rfl, by simp, blk_put hcell 0 _ rfl⟩
    case done =>
      rintro W hch ⟨hnil, hcell⟩ hk
      have q3 : W.cell? ⟨w.heap.size + 1, 0, none⟩ = some (.int .i64 0) := (blk_cell hcell 0).trans rfl
      have q4 := blk_frozen hcell 0
      gi_wp2_with fail
      refine mark_ret ((Below.heap_setCell _ _ _ _ (by show w3.heap.size ≠ w.heap.size + 1; omega)).trans hk) ?_
      intro W' hW' hb'
      have hp : possI L st l = 9 := by unfold possI; rw [HCK.out, if_pos rfl, if_pos hnil]
      have hc5 : W'.cell? ⟨w.heap.size + 1, 0, none⟩ = some (.int .i64 9) := (blk_cell ((hW' _ (by omega)).trans (blk_put hcell 0 (.int .i64 9) rfl)) 0).trans rfl
      refine ⟨.int .i64 9, by simp [results, Try.f45, go_sem, hc5], by rw [hp], ?_⟩
      exact (below_set (HB3.out.trans (hch.below (by omega) (by rintro i hi (h | h) <;> omega))) (by simp)).trans (hb'.mono (by omega))
    case stop =>
      rintro k pre W hpre hch ⟨rfl, hne, hcell⟩ hk
      gi_wp2_with fail
      refine mark_ret hk ?_
      intro W' hW' hb'
      have hnn : hists L st l ≠ [] := fun e => hne (by rw [e] at hpre; simpa using hpre)
      have hp : possI L st l = 0 := by unfold possI; rw [HCK.out, if_pos rfl, if_neg hnn]
      have hc5 : W'.cell? ⟨w.heap.size + 1, 0, none⟩ = some (.int .i64 0) := (blk_cell ((hW' _ (by omega)).trans hcell) 0).trans rfl
      refine ⟨.int .i64 0, by simp [results, Try.f45, go_sem, hc5], by rw [hp], ?_⟩
      exact (HB3.out.trans (hch.below (by omega) (by rintro i hi (h | h) <;> omega))).trans (hb'.mono (by omega))
  · have h0b : (ck == 0) = false := beq_eq_false_iff_ne.2 h0
    have h0c : (ck != 0) = true := bne_iff_ne.2 h0
    have hp : possI L st l = ck := by unfold possI; rw [HCK.out, if_neg h0]
    gi_wp2_with fail
    refine ⟨.int .i64 ck, ?_, by rw [hp], ?_⟩
    · have hc5 : (w2.setCell ⟨w.heap.size + 1, 0, none⟩ (.int .i64 ck)).cell? ⟨w.heap.size + 1, 0, none⟩ = some (.int .i64 ck) := (blk_cell (blk_put HBY2.out 0 (.int .i64 ck) rfl) 0).trans rfl
      simp [results, Try.f45, go_sem, hc5]
    · exact below_set HB2.out (by simp)
end Go.Proofs.Ytkglggggmlnleaa.Print
