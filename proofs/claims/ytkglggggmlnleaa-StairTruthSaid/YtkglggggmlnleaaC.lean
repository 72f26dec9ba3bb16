/- The memory of what can go on: 'can' of the iterator. -/
import Derived.Test.YtkglggggmlnleaaI
import Derived.WalkMore
import Derived.Laws.EntriesVeiled
namespace Go.Proofs.Ytkglggggmlnleaa.Print
open Go.RowKit Go.Proofs.YtkglggggmlnleaaW.PrintWords Go.Proofs.YtkglggggmlnleaaW.PrintLast Go.Proofs.YtkglggggmlnleaaW.PrintMore
set_option linter.unusedVariables false
set_option linter.unusedSimpArgs false

def CanSaid (L st : Int) (A : Option Addr) (c : Nat) (xs : List S67) (bs bm bk bc km : Nat) (k : Nat) : Prop :=
  ∀ (l : Int) (W : World), 0 ≤ l → l < L → IterSt W bs bm bk bc km L st A c xs →
    Calls Try.prog 68 #[.agg #[.int .i64 k, .int .i64 l], .pointer (some ⟨bs, 0, none⟩), .pointer (some ⟨bk, 0, none⟩), .pointer (some ⟨bm, 0, none⟩), .pointer (some ⟨bc, 0, none⟩)] W
      fun e w' => e = .returned (.bool (canB L l (xs.drop k))) ∧ Ch (· = km) W w' ∧ MemoOK w' km L xs

theorem canB_yes {L l : Int} {xs : List S67} {k : Nat} {x : S67} {r : Nat} (hx : xs[k]? = some x) (hr : r < 3) (h1 : mayB x l r = true) (h2 : canB L (nxt L l r) (xs.drop (k + 1)) = true) : canB L l (xs.drop k) = true := by
  obtain ⟨hk, rfl⟩ := List.getElem?_eq_some_iff.1 hx
  rw [List.drop_eq_getElem_cons hk]
  simp only [canB, List.any_eq_true, Bool.and_eq_true]
  exact ⟨r, by match r, hr with | 0, _ => simp | 1, _ => simp | 2, _ => simp, h1, h2⟩
theorem canB_no {L l : Int} {xs : List S67} {k : Nat} {x : S67} (hx : xs[k]? = some x) (h : ∀ r : Nat, r < 3 → (mayB x l r && canB L (nxt L l r) (xs.drop (k + 1))) = false) : canB L l (xs.drop k) = false := by
  obtain ⟨hk, rfl⟩ := List.getElem?_eq_some_iff.1 hx
  rw [List.drop_eq_getElem_cons hk]
  have a0 := h 0 (by omega)
  have a1 := h 1 (by omega)
  have a2 := h 2 (by omega)
  simp only [canB, List.any_cons, List.any_nil, Bool.or_false]
  rw [show ((0 : Int)) = ((0 : Nat) : Int) from rfl, show ((1 : Int)) = ((1 : Nat) : Int) from rfl, show ((2 : Int)) = ((2 : Nat) : Int) from rfl, a0, a1, a2]
  rfl
def f68.T9 : Bool × List (List Nat × List Nat) := (true, [([], []), ([], []), ([], []), ([2], [2]), ([0, 1, 3], [0, 1, 3]), ([4, 4], [4]), ([5], [5]), ([5], [5]), ([7, 5], [5, 7]), ([8, 5], [5, 8]), ([5], [5]), ([10, 5], [5, 10]), ([5], [5]), ([5], [5]), ([13, 5], [5, 13]), ([11, 12, 14, 5, 5], [5, 11, 12, 14]), ([9, 15, 5], [5, 9, 15]), ([6, 16, 15, 5], [5, 6, 16]), ([5, 17], [5, 17])])
def f68.B9 : List Nat := [0, 0, 0, 4, 15, 31, 63, 63, 191, 447, 63, 1087, 63, 63, 8255, 31807, 65471, 131071, 262143]
theorem f68.tab9 : rtab .any (opsOf Try.f68 9) = f68.T9 := by kernel_rfl
theorem f68.bits9 : waitsOk f68.T9.2 f68.B9 = true := by kernel_rfl
/-- What holds in the drawing region of can. -/
structure CanS (bs bm bk bc km : Nat) (L st : Int) (A : Option Addr) (c : Nat) (xs : List S67) (W : World) (k : Nat) (l : Int) (g gm jn : Nat) (w : World) : Prop where
  st : IterSt w bs bm bk bc km L st A c xs
  ch : Ch (· = km) W w
  box : w.heap[W.heap.size]? = some (.cells #[.int .i64 k, .int .i64 l] 105 (0, 0))
  mv : w.heap[g]? = some (.cells mvs 108 (0, 0))
  m : w.heap[gm]? = some (.cells #[.func (.func (77 + jn)) #[] #[]] 108 (0, 0))
section
variable {bs bm bk bc km : Nat} {L st : Int} {A : Option Addr} {c : Nat} {xs : List S67} {W : World} {k : Nat} {l : Int} {g gm jn : Nat} {w : World}
theorem CanS.below (h : CanS bs bm bk bc km L st A c xs W k l g gm jn w) {w' : World} (hb : Below w.heap.size w w') : CanS bs bm bk bc km L st A c xs W k l g gm jn w' :=
  ⟨h.st.same hb, h.ch.trans (.of_below hb), blk_below h.box hb, blk_below h.mv hb, blk_below h.m hb⟩
theorem CanS.changed (h : CanS bs bm bk bc km L st A c xs W k l g gm jn w) {w' : World} (hc : Ch (· = km) w w') (hm : MemoOK w' km L xs) : CanS bs bm bk bc km L st A c xs W k l g gm jn w' :=
  ⟨h.st.kept hc h.st.km_map hm, h.ch.trans hc, hc.heap h.box (h.st.km_map _ _ _ _ h.box), hc.heap h.mv (h.st.km_map _ _ _ _ h.mv), hc.heap h.m (h.st.km_map _ _ _ _ h.m)⟩
theorem CanS.cells (h : CanS bs bm bk bc km L st A c xs W k l g gm jn w) :
    w.cell? ⟨bm, 0, none⟩ = some (.func (.func 60) #[.agg #[.int .i64 L, .int .i64 st, .slice A xs.length c]] #[]) ∧ w.cell? ⟨W.heap.size, 0, none⟩ = some (.int .i64 k) ∧ w.cell? ⟨W.heap.size, 1, none⟩ = some (.int .i64 l) ∧
    w.cell? ⟨bc, 0, none⟩ = some (.func (.func 68) #[] #[.pointer (some ⟨bs, 0, none⟩), .pointer (some ⟨bk, 0, none⟩), .pointer (some ⟨bm, 0, none⟩), .pointer (some ⟨bc, 0, none⟩)]) ∧
    w.cell? ⟨gm, 0, none⟩ = some (.func (.func (77 + jn)) #[] #[]) ∧ w.cell? ⟨bs, 0, none⟩ = some (.int .i64 L) ∧ w.cell? ⟨bs, 1, none⟩ = some (.int .i64 st) ∧ w.cell? ⟨bs, 2, none⟩ = some (.slice A xs.length c) :=
  ⟨(blk_cell h.st.may 0).trans rfl, (blk_cell h.box 0).trans rfl, (blk_cell h.box 1).trans rfl, (blk_cell h.st.can 0).trans rfl, (blk_cell h.m 0).trans rfl, (blk_cell h.st.s 0).trans rfl, (blk_cell h.st.s 1).trans rfl, (blk_cell h.st.s 2).trans rfl⟩
theorem CanS.kn (h : CanS bs bm bk bc km L st A c xs W k l g gm jn w) : w.cell? ⟨bk, 0, none⟩ = some (.map (some km)) := (blk_cell h.st.kn 0).trans rfl
theorem CanS.k0 (h : CanS bs bm bk bc km L st A c xs W k l g gm jn w) : w.cell? ⟨W.heap.size, 0, none⟩ = some (.int .i64 k) := (blk_cell h.box 0).trans rfl
theorem CanS.k1 (h : CanS bs bm bk bc km L st A c xs W k l g gm jn w) : w.cell? ⟨W.heap.size, 1, none⟩ = some (.int .i64 l) := (blk_cell h.box 1).trans rfl
end
noncomputable def fn77 (r : Nat) : Func := if r = 0 then Try.f77 else if r = 1 then Try.f78 else Try.f79
theorem hf77 (r : Nat) (hr : r < 3) : Try.prog.funcs[77 + r]? = some (fn77 r) := by
  match r, hr with
  | 0, _ => exact Try.func77
  | 1, _ => exact Try.func78
  | 2, _ => exact Try.func79
theorem hn77 (r : Nat) (hr : r < 3) : ((fn77 r).name == "runtime.NumGoroutine") = false := by
  match r, hr with
  | 0, _ => exact (by kernel_rfl : (Try.f77.name == "runtime.NumGoroutine") = false)
  | 1, _ => exact (by kernel_rfl : (Try.f78.name == "runtime.NumGoroutine") = false)
  | 2, _ => exact (by kernel_rfl : (Try.f79.name == "runtime.NumGoroutine") = false)
theorem hb77 (r : Nat) (hr : r < 3) : (fn77 r).body.isSome = true := by
  match r, hr with
  | 0, _ => rfl
  | 1, _ => rfl
  | 2, _ => rfl

set_option maxHeartbeats 1000000 in
set_option maxRecDepth 100000 in
theorem can_end (L st : Int) (A : Option Addr) (c : Nat) (xs : List S67) (bs bm bk bc km : Nat) (hx : xs.length ≤ 14) : CanSaid L st A c xs bs bm bk bc km xs.length := by
  intro l W h0 h1 hI
  have hs : W.cell? ⟨bs, 2, none⟩ = some (.slice A xs.length c) := (blk_cell hI.s 2).trans rfl
  have hlt := blk_lt hI.s
  have HI := Aside0.mk hI
  clear hI
  have hu105 := Try.underlying105
  have hu34 := Try.underlying34
  have hb1 : ((xs.length : Int) == (xs.length : Int)) = true := beq_self_eq_true _
  have hb2 : (xs.length == xs.length) = true := beq_self_eq_true _
  go_enter Try.func68, Try.ntmps68
  go_wp2_with fail
  go_step3
  go_wp2_with fail
  rw [Exit.noGoto_ret]
  go_ret
  refine ⟨by simp [canB], (Ch.refl _ W).alloc _, HI.out.memo.of_same (Below.heap_alloc _ _ _ ?_)⟩
  obtain ⟨es, cl, h, _⟩ := HI.out.memo
  exact (Array.getElem?_eq_some_iff.1 h).1

set_option maxHeartbeats 1000000 in
set_option maxRecDepth 100000 in
theorem can_step (L st : Int) (A : Option Addr) (c : Nat) (xs : List S67) (bs bm bk bc km : Nat) (hL1 : 1 ≤ L) (hL : L ≤ 8) (hx : xs.length ≤ 14) (k : Nat) (hk : k < xs.length) (ih : Aside0 (CanSaid L st A c xs bs bm bk bc km (k + 1))) : CanSaid L st A c xs bs bm bk bc km k := by
  intro l W h0 h1 hI
  have hs : W.cell? ⟨bs, 2, none⟩ = some (.slice A xs.length c) := (blk_cell hI.s 2).trans rfl
  have hs0 : W.cell? ⟨bs, 0, none⟩ = some (.int .i64 L) := (blk_cell hI.s 0).trans rfl
  have hs1 : W.cell? ⟨bs, 1, none⟩ = some (.int .i64 st) := (blk_cell hI.s 1).trans rfl
  have hkn : W.cell? ⟨bk, 0, none⟩ = some (.map (some km)) := (blk_cell hI.kn 0).trans rfl
  have hlt := blk_lt hI.s
  have hltk := blk_lt hI.kn
  have hu105 := Try.underlying105
  have hu34 := Try.underlying34
  have hkn1 : ((k : Int) == (xs.length : Int)) = false := beq_eq_false_iff_ne.2 (by omega)
  have hkn2 : (k == xs.length) = false := beq_eq_false_iff_ne.2 (by omega)
  rcases run_memo (W := W.alloc (.cells #[.int .i64 k, .int .i64 l] 105 (0, 0))) (hI.same ((Below.refl _ _).alloc (Nat.le_refl _) _)).memo hL hx hk h0 h1 with hrun | hrun
  · have HI := Aside0.mk hI
    clear hI
    go_enter Try.func68, Try.ntmps68
    go_wp2_with fail
    go_step3
    go_wp2_with fail
    go_step3
    go_wp2_with fail
    refine (moves_calls _).mono ?_
    rintro e w1 ⟨g, rfl, hg, hmv, hbel⟩
    go_wp2_with fail
    have hIa : IterSt w1 bs bm bk bc km L st A c xs := (HI.out.same ((Below.refl _ _).alloc (Nat.le_refl _) _)).same hbel
    have hCa : Ch (· = km) W w1 := ((Ch.refl _ W).alloc _).trans (.of_below hbel)
    have hBa : w1.heap[W.heap.size]? = some (.cells #[.int .i64 k, .int .i64 l] 105 (0, 0)) := blk_below (blk_new W _) hbel
    have HIa := Aside0.mk hIa
    have HCa := Aside0.mk hCa
    have HBa := Aside0.mk hBa
    have Hmv := Aside0.mk hmv
    obtain ⟨x, hxk⟩ : ∃ x, xs[k]? = some x := ⟨_, List.getElem?_eq_getElem hk⟩
    have HXK := Aside0.mk hxk
    have hgW : W.heap.size ≠ g := by simp at hg; omega
    clear hIa hCa hBa hmv hxk hrun hs hs0 hs1 hkn hbel HI
    go_loopw [7, 27] (fun is j wr => ∃ jn : Nat, jn ≤ 3 ∧ j = .int .i64 jn ∧ is = .bool false ∧ Aside0 (∀ r, r < jn → (mayB x l r && canB L (nxt L l r) (xs.drop (k + 1))) = false) ∧ Aside0 (IterSt wr bs bm bk bc km L st A c xs) ∧ Aside0 (Ch (· = km) W wr) ∧ Aside0 (wr.heap[W.heap.size]? = some (.cells #[.int .i64 k, .int .i64 l] 105 (0, 0))) ∧ Aside0 (wr.heap[g]? = some (.cells mvs 108 (0, 0)))) (fun _ j _ => 3 - (intOf j).toNat)
    case atStart => exact ⟨0, by omega, rfl, rfl, ⟨fun r hr => by omega⟩, HIa, HCa, HBa, Hmv⟩
    case round =>
      obtain ⟨jn, hj, rfl, rfl, hno, hI, hC, hB, hM⟩ := hrel
      clear HIa HCa HBa Hmv
      have hs : wr.cell? ⟨bs, 0, none⟩ = some (.int .i64 L) := (blk_cell hI.out.s 0).trans rfl
      have hkn : wr.cell? ⟨bk, 0, none⟩ = some (.map (some km)) := (blk_cell hI.out.kn 0).trans rfl
      have hk0 : wr.cell? ⟨W.heap.size, 0, none⟩ = some (.int .i64 k) := (blk_cell hB.out 0).trans rfl
      have hk1 : wr.cell? ⟨W.heap.size, 1, none⟩ = some (.int .i64 l) := (blk_cell hB.out 1).trans rfl
      by_cases hj3 : jn < 3
      · have hmv : wr.cell? ⟨g, jn, none⟩ = some (.func (.func (77 + jn)) #[] #[]) := by
          refine (blk_cell hM.out jn).trans ?_
          match jn, hj3 with
          | 0, _ => rfl
          | 1, _ => rfl
          | 2, _ => rfl
        have hgl := blk_lt hM.out
        have hj4 : (jn : Int) < 3 := by omega
        have hj5 : (0 : Int) ≤ (jn : Int) := by omega
        have hj6 : decide ((jn : Int) < 3) = true := decide_eq_true hj4
        go_wp2_with fail
        have hst : CanS bs bm bk bc km L st A c xs W k l g wr.heap.size jn (wr.alloc (.cells #[.func (.func (77 + jn)) #[] #[]] 108 (0, 0))) :=
          ⟨hI.out.same ((Below.refl _ _).alloc (Nat.le_refl _) _), hC.out.alloc _, blk_alloc hB.out _, blk_alloc hM.out _, blk_new wr _⟩
        clear hI hC hB hM hs hkn hk0 hk1 hmv hgl
        generalize wr.heap.size = gm at hst ⊢
        generalize wr.alloc (.cells #[.func (.func (77 + jn)) #[] #[]] 108 (0, 0)) = w8 at hst ⊢
        have hw8 : IntKind.u8.wrap (jn : Int) = jn := by
          have : IntKind.u8.wrap (jn : Int) = (jn : Int) % 256 := by simp [IntKind.wrap, IntKind.bits, IntKind.signed]
          omega
        have hwk : wrap64 ((k : Int) + 1) = (k : Int) + 1 := by unfold wrap64; omega
        have Hwk := Aside0.mk hwk
        clear hwk
        have hnx := nxt_range (L := L) (l := l) (r := jn) h0 h1
        obtain ⟨mb, hmb⟩ : ∃ b, mayB x l jn = b := ⟨_, rfl⟩
        have Hmay := Aside0.mk hmb
        clear hmb
        have hdr : w8.drew.heap = w8.heap := rfl
        replace hst : CanS bs bm bk bc km L st A c xs W k l g gm jn w8.drew := hst.below ⟨rfl, rfl, rfl, Nat.le_refl _, fun _ _ => rfl⟩
        clear hdr
        cases mb with
        | false =>
          refine start_ (n := 19) (S := (CanS bs bm bk bc km L st A c xs W k l g gm jn)) (ds := []) #[false, false, false, false, false, false, false, false, false, false, false, false, false, false, false, false, false, false, false] (by kernel_rfl) rfl rfl (hst) (fun hHeld => ?_)
          generalize w8.drew = wd at hHeld ⊢
          refine with_tabW f68.tab9 f68.bits9 (fun HT_ HW_ => ?_)
          refine take_ (i := 0) (N := some 32) (v := ?_) (a' := ?_) #[true, false, false, false, false, false, false, false, false, false, false, false, false, false, false, false, false, false, false] rfl rfl (take_ofW HT_.out HW_.out (by kernel_rfl)) (fun _ _ _ h => h) (Or.inl ⟨by rfl, ?_⟩) hHeld ?_ ?_
          rotate_left
          · rintro w' hS
            obtain ⟨s0, s1, s2, s3, s4, s5, s6, s7⟩ := hS.cells
            clear hS
            go_simp
            with_reducible rfl
          rotate_left
          · simp only [Act.put, List.setIfInBounds_toArray, List.set_cons_zero, List.set_cons_succ, i64_w, i32_w]
            rfl
          refine take_ (i := 1) (N := some 33) (v := ?_) (a' := ?_) #[true, true, false, false, false, false, false, false, false, false, false, false, false, false, false, false, false, false, false] rfl rfl (take_ofW HT_.out HW_.out (by kernel_rfl)) (fun _ _ _ h => h) (Or.inl ⟨by rfl, ?_⟩) hHeld ?_ ?_
          rotate_left
          · rintro w' hS
            obtain ⟨s0, s1, s2, s3, s4, s5, s6, s7⟩ := hS.cells
            clear hS
            go_simp
            with_reducible rfl
          rotate_left
          · simp only [Act.put, List.setIfInBounds_toArray, List.set_cons_zero, List.set_cons_succ, i64_w, i32_w]
            rfl
          refine take_ (i := 2) (N := some 34) (v := ?_) (a' := ?_) #[true, true, true, false, false, false, false, false, false, false, false, false, false, false, false, false, false, false, false] rfl rfl (take_ofW HT_.out HW_.out (by kernel_rfl)) (fun _ _ _ h => h) (Or.inl ⟨by rfl, ?_⟩) hHeld ?_ ?_
          rotate_left
          · rintro w' hS
            obtain ⟨s0, s1, s2, s3, s4, s5, s6, s7⟩ := hS.cells
            clear hS
            go_simp
            with_reducible rfl
          rotate_left
          · simp only [Act.put, List.setIfInBounds_toArray, List.set_cons_zero, List.set_cons_succ, i64_w, i32_w]
            rfl
          refine take_ (i := 3) (N := some 35) (v := ?_) (a' := ?_) #[true, true, true, true, false, false, false, false, false, false, false, false, false, false, false, false, false, false, false] rfl rfl (take_ofW HT_.out HW_.out (by kernel_rfl)) (fun _ _ _ h => h) (Or.inl ⟨by rfl, ?_⟩) hHeld ?_ ?_
          rotate_left
          · rintro w' hS
            obtain ⟨s0, s1, s2, s3, s4, s5, s6, s7⟩ := hS.cells
            clear hS
            go_simp
            with_reducible rfl
          rotate_left
          · simp only [Act.put, List.setIfInBounds_toArray, List.set_cons_zero, List.set_cons_succ, i64_w, i32_w]
            rfl
          refine one_ (i := 4) (N := some 36) #[true, true, true, true, true, false, false, false, false, false, false, false, false, false, false, false, false, false, false] rfl rfl (one_of HT_.out (by kernel_rfl)) (by decide) (fun K hK => ?_)
          refine callv_ (t := 32) Try.func60 (by kernel_rfl) rfl #[.agg #[.int .i64 L, .int .i64 st, .slice A xs.length c], .agg #[.int .i64 k, .int .i64 l], .int .u8 jn] (by rfl) rfl rfl rfl (by simp [Act.eval, hw8]) ?_
          refine (may_calls L st A c xs k x l jn _ hHeld.st.reads hHeld.st.cap HXK.out).mono ?_
          rintro e w2 ⟨rfl, hb2⟩
          rw [Hmay.out]
          refine ⟨_, rfl, hK.out _ _ (hHeld.below hb2) ?_⟩
          clear hHeld hb2
          intro hHeld
          clear hK K
          refine norm_ (a' := ?_) ?_ ?_
          rotate_left
          · show Act.put _ (some 36) _ = _
            simp only [Act.put, List.setIfInBounds_toArray, List.set_cons_zero, List.set_cons_succ, i64_w, i32_w]
            rfl
          refine take_ (i := 5) (N := some 37) (v := ?_) (a' := ?_) #[true, true, true, true, true, true, false, false, false, false, false, false, false, false, false, false, false, false, false] rfl rfl (take_ofW HT_.out HW_.out (by kernel_rfl)) (fun _ _ _ h => h) (Or.inl ⟨by rfl, ?_⟩) hHeld ?_ ?_
          rotate_left
          · rintro w' hS
            obtain ⟨s0, s1, s2, s3, s4, s5, s6, s7⟩ := hS.cells
            clear hS
            go_simp
            with_reducible rfl
          rotate_left
          · simp only [Act.put, List.setIfInBounds_toArray, List.set_cons_zero, List.set_cons_succ, i64_w, i32_w]
            rfl
          refine take_ (i := 6) (N := some 38) (v := undef) (a' := ?_) #[true, true, true, true, true, true, true, false, false, false, false, false, false, false, false, false, false, false, false] rfl rfl (take_ofW HT_.out HW_.out (by kernel_rfl)) (fun _ _ _ h => h) (Or.inr ⟨by rfl, rfl⟩) hHeld ?_ ?_
          rotate_left
          · simp only [Act.put, List.setIfInBounds_toArray, List.set_cons_zero, List.set_cons_succ, i64_w, i32_w]
            rfl
          refine take_ (i := 7) (N := some 39) (v := undef) (a' := ?_) #[true, true, true, true, true, true, true, true, false, false, false, false, false, false, false, false, false, false, false] rfl rfl (take_ofW HT_.out HW_.out (by kernel_rfl)) (fun _ _ _ h => h) (Or.inr ⟨by rfl, rfl⟩) hHeld ?_ ?_
          rotate_left
          · simp only [Act.put, List.setIfInBounds_toArray, List.set_cons_zero, List.set_cons_succ, i64_w, i32_w]
            rfl
          refine take_ (i := 8) (N := some 40) (v := undef) (a' := ?_) #[true, true, true, true, true, true, true, true, true, false, false, false, false, false, false, false, false, false, false] rfl rfl (take_ofW HT_.out HW_.out (by kernel_rfl)) (fun _ _ _ h => h) (Or.inr ⟨by rfl, rfl⟩) hHeld ?_ ?_
          rotate_left
          · simp only [Act.put, List.setIfInBounds_toArray, List.set_cons_zero, List.set_cons_succ, i64_w, i32_w]
            rfl
          refine take_ (i := 9) (N := some 41) (v := undef) (a' := ?_) #[true, true, true, true, true, true, true, true, true, true, false, false, false, false, false, false, false, false, false] rfl rfl (take_ofW HT_.out HW_.out (by kernel_rfl)) (fun _ _ _ h => h) (Or.inr ⟨by rfl, rfl⟩) hHeld ?_ ?_
          rotate_left
          · simp only [Act.put, List.setIfInBounds_toArray, List.set_cons_zero, List.set_cons_succ, i64_w, i32_w]
            rfl
          refine take_ (i := 10) (N := some 42) (v := undef) (a' := ?_) #[true, true, true, true, true, true, true, true, true, true, true, false, false, false, false, false, false, false, false] rfl rfl (take_ofW HT_.out HW_.out (by kernel_rfl)) (fun _ _ _ h => h) (Or.inr ⟨by rfl, rfl⟩) hHeld ?_ ?_
          rotate_left
          · simp only [Act.put, List.setIfInBounds_toArray, List.set_cons_zero, List.set_cons_succ, i64_w, i32_w]
            rfl
          refine take_ (i := 11) (N := some 43) (v := undef) (a' := ?_) #[true, true, true, true, true, true, true, true, true, true, true, true, false, false, false, false, false, false, false] rfl rfl (take_ofW HT_.out HW_.out (by kernel_rfl)) (fun _ _ _ h => h) (Or.inr ⟨by rfl, rfl⟩) hHeld ?_ ?_
          rotate_left
          · simp only [Act.put, List.setIfInBounds_toArray, List.set_cons_zero, List.set_cons_succ, i64_w, i32_w]
            rfl
          refine take_ (i := 12) (N := some 44) (v := undef) (a' := ?_) #[true, true, true, true, true, true, true, true, true, true, true, true, true, false, false, false, false, false, false] rfl rfl (take_ofW HT_.out HW_.out (by kernel_rfl)) (fun _ _ _ h => h) (Or.inr ⟨by rfl, rfl⟩) hHeld ?_ ?_
          rotate_left
          · simp only [Act.put, List.setIfInBounds_toArray, List.set_cons_zero, List.set_cons_succ, i64_w, i32_w]
            rfl
          refine take_ (i := 13) (N := some 45) (v := undef) (a' := ?_) #[true, true, true, true, true, true, true, true, true, true, true, true, true, true, false, false, false, false, false] rfl rfl (take_ofW HT_.out HW_.out (by kernel_rfl)) (fun _ _ _ h => h) (Or.inr ⟨by rfl, rfl⟩) hHeld ?_ ?_
          rotate_left
          · simp only [Act.put, List.setIfInBounds_toArray, List.set_cons_zero, List.set_cons_succ, i64_w, i32_w]
            rfl
          refine take_ (i := 14) (N := some 46) (v := undef) (a' := ?_) #[true, true, true, true, true, true, true, true, true, true, true, true, true, true, true, false, false, false, false] rfl rfl (take_ofW HT_.out HW_.out (by kernel_rfl)) (fun _ _ _ h => h) (Or.inr ⟨by rfl, rfl⟩) hHeld ?_ ?_
          rotate_left
          · simp only [Act.put, List.setIfInBounds_toArray, List.set_cons_zero, List.set_cons_succ, i64_w, i32_w]
            rfl
          refine take_ (i := 15) (N := some 47) (v := undef) (a' := ?_) #[true, true, true, true, true, true, true, true, true, true, true, true, true, true, true, true, false, false, false] rfl rfl (take_ofW HT_.out HW_.out (by kernel_rfl)) (fun _ _ _ h => h) (Or.inr ⟨by rfl, rfl⟩) hHeld ?_ ?_
          rotate_left
          · simp only [Act.put, List.setIfInBounds_toArray, List.set_cons_zero, List.set_cons_succ, i64_w, i32_w]
            rfl
          refine take_ (i := 16) (N := some 48) (v := undef) (a' := ?_) #[true, true, true, true, true, true, true, true, true, true, true, true, true, true, true, true, true, false, false] rfl rfl (take_ofW HT_.out HW_.out (by kernel_rfl)) (fun _ _ _ h => h) (Or.inr ⟨by rfl, rfl⟩) hHeld ?_ ?_
          rotate_left
          · simp only [Act.put, List.setIfInBounds_toArray, List.set_cons_zero, List.set_cons_succ, i64_w, i32_w]
            rfl
          refine take_ (i := 17) (N := some 49) (v := undef) (a' := ?_) #[true, true, true, true, true, true, true, true, true, true, true, true, true, true, true, true, true, true, false] rfl rfl (take_ofW HT_.out HW_.out (by kernel_rfl)) (fun _ _ _ h => h) (Or.inr ⟨by rfl, rfl⟩) hHeld ?_ ?_
          rotate_left
          · simp only [Act.put, List.setIfInBounds_toArray, List.set_cons_zero, List.set_cons_succ, i64_w, i32_w]
            rfl
          refine take_ (i := 18) (N := some 50) (v := ?_) (a' := ?_) #[true, true, true, true, true, true, true, true, true, true, true, true, true, true, true, true, true, true, true] rfl rfl (take_ofW HT_.out HW_.out (by kernel_rfl)) (fun _ _ _ h => h) (Or.inl ⟨by rfl, ?_⟩) hHeld ?_ ?_
          rotate_left
          · rintro w' hS
            obtain ⟨s0, s1, s2, s3, s4, s5, s6, s7⟩ := hS.cells
            clear hS
            go_simp
            with_reducible rfl
          rotate_left
          · simp only [Act.put, List.setIfInBounds_toArray, List.set_cons_zero, List.set_cons_succ, i64_w, i32_w]
            rfl
          refine done_ (done_of HT_.out (by kernel_rfl)) ?_

          go_wp2_with fail
          go_roundw
          case rel =>
            refine ⟨jn + 1, by omega, by go_num, rfl, ⟨fun r hr => ?_⟩, ⟨hHeld.st⟩, ⟨hHeld.ch⟩, ⟨hHeld.box⟩, ⟨hHeld.mv⟩⟩
            rcases Nat.lt_succ_iff_lt_or_eq.1 hr with h | rfl
            · exact hno.out r h
            · rw [Hmay.out]; rfl
          case measure => simp [intOf]; omega
        | true =>
          obtain ⟨cb, hcb⟩ : ∃ b, canB L (nxt L l jn) (xs.drop (k + 1)) = b := ⟨_, rfl⟩
          have Hcan := Aside0.mk hcb
          clear hcb
          cases cb with
          | false =>
            refine start_ (n := 19) (S := (CanS bs bm bk bc km L st A c xs W k l g gm jn)) (ds := []) #[false, false, false, false, false, false, false, false, false, false, false, false, false, false, false, false, false, false, false] (by kernel_rfl) rfl rfl (hst) (fun hHeld => ?_)
            generalize w8.drew = wd at hHeld ⊢
            refine with_tabW f68.tab9 f68.bits9 (fun HT_ HW_ => ?_)
            refine take_ (i := 0) (N := some 32) (v := ?_) (a' := ?_) #[true, false, false, false, false, false, false, false, false, false, false, false, false, false, false, false, false, false, false] rfl rfl (take_ofW HT_.out HW_.out (by kernel_rfl)) (fun _ _ _ h => h) (Or.inl ⟨by rfl, ?_⟩) hHeld ?_ ?_
            rotate_left
            · rintro w' hS
              obtain ⟨s0, s1, s2, s3, s4, s5, s6, s7⟩ := hS.cells
              clear hS
              go_simp
              with_reducible rfl
            rotate_left
            · simp only [Act.put, List.setIfInBounds_toArray, List.set_cons_zero, List.set_cons_succ, i64_w, i32_w]
              rfl
            refine take_ (i := 1) (N := some 33) (v := ?_) (a' := ?_) #[true, true, false, false, false, false, false, false, false, false, false, false, false, false, false, false, false, false, false] rfl rfl (take_ofW HT_.out HW_.out (by kernel_rfl)) (fun _ _ _ h => h) (Or.inl ⟨by rfl, ?_⟩) hHeld ?_ ?_
            rotate_left
            · rintro w' hS
              obtain ⟨s0, s1, s2, s3, s4, s5, s6, s7⟩ := hS.cells
              clear hS
              go_simp
              with_reducible rfl
            rotate_left
            · simp only [Act.put, List.setIfInBounds_toArray, List.set_cons_zero, List.set_cons_succ, i64_w, i32_w]
              rfl
            refine take_ (i := 2) (N := some 34) (v := ?_) (a' := ?_) #[true, true, true, false, false, false, false, false, false, false, false, false, false, false, false, false, false, false, false] rfl rfl (take_ofW HT_.out HW_.out (by kernel_rfl)) (fun _ _ _ h => h) (Or.inl ⟨by rfl, ?_⟩) hHeld ?_ ?_
            rotate_left
            · rintro w' hS
              obtain ⟨s0, s1, s2, s3, s4, s5, s6, s7⟩ := hS.cells
              clear hS
              go_simp
              with_reducible rfl
            rotate_left
            · simp only [Act.put, List.setIfInBounds_toArray, List.set_cons_zero, List.set_cons_succ, i64_w, i32_w]
              rfl
            refine take_ (i := 3) (N := some 35) (v := ?_) (a' := ?_) #[true, true, true, true, false, false, false, false, false, false, false, false, false, false, false, false, false, false, false] rfl rfl (take_ofW HT_.out HW_.out (by kernel_rfl)) (fun _ _ _ h => h) (Or.inl ⟨by rfl, ?_⟩) hHeld ?_ ?_
            rotate_left
            · rintro w' hS
              obtain ⟨s0, s1, s2, s3, s4, s5, s6, s7⟩ := hS.cells
              clear hS
              go_simp
              with_reducible rfl
            rotate_left
            · simp only [Act.put, List.setIfInBounds_toArray, List.set_cons_zero, List.set_cons_succ, i64_w, i32_w]
              rfl
            refine one_ (i := 4) (N := some 36) #[true, true, true, true, true, false, false, false, false, false, false, false, false, false, false, false, false, false, false] rfl rfl (one_of HT_.out (by kernel_rfl)) (by decide) (fun K hK => ?_)
            refine callv_ (t := 32) Try.func60 (by kernel_rfl) rfl #[.agg #[.int .i64 L, .int .i64 st, .slice A xs.length c], .agg #[.int .i64 k, .int .i64 l], .int .u8 jn] (by rfl) rfl rfl rfl (by simp [Act.eval, hw8]) ?_
            refine (may_calls L st A c xs k x l jn _ hHeld.st.reads hHeld.st.cap HXK.out).mono ?_
            rintro e w2 ⟨rfl, hb2⟩
            rw [Hmay.out]
            refine ⟨_, rfl, hK.out _ _ (hHeld.below hb2) ?_⟩
            clear hHeld hb2
            intro hHeld
            clear hK K
            refine norm_ (a' := ?_) ?_ ?_
            rotate_left
            · show Act.put _ (some 36) _ = _
              simp only [Act.put, List.setIfInBounds_toArray, List.set_cons_zero, List.set_cons_succ, i64_w, i32_w]
              rfl
            refine take_ (i := 5) (N := some 37) (v := ?_) (a' := ?_) #[true, true, true, true, true, true, false, false, false, false, false, false, false, false, false, false, false, false, false] rfl rfl (take_ofW HT_.out HW_.out (by kernel_rfl)) (fun _ _ _ h => h) (Or.inl ⟨by rfl, ?_⟩) hHeld ?_ ?_
            rotate_left
            · rintro w' hS
              obtain ⟨s0, s1, s2, s3, s4, s5, s6, s7⟩ := hS.cells
              clear hS
              go_simp
              with_reducible rfl
            rotate_left
            · simp only [Act.put, List.setIfInBounds_toArray, List.set_cons_zero, List.set_cons_succ, i64_w, i32_w]
              rfl
            refine take_ (i := 6) (N := some 38) (v := ?_) (a' := ?_) #[true, true, true, true, true, true, true, false, false, false, false, false, false, false, false, false, false, false, false] rfl rfl (take_ofW HT_.out HW_.out (by kernel_rfl)) (fun _ _ _ h => h) (Or.inl ⟨by rfl, ?_⟩) hHeld ?_ ?_
            rotate_left
            · rintro w' hS
              obtain ⟨s0, s1, s2, s3, s4, s5, s6, s7⟩ := hS.cells
              clear hS
              go_simp
              with_reducible rfl
            rotate_left
            · simp only [Act.put, List.setIfInBounds_toArray, List.set_cons_zero, List.set_cons_succ, i64_w, i32_w]
              rfl
            refine take_ (i := 7) (N := some 39) (v := ?_) (a' := ?_) #[true, true, true, true, true, true, true, true, false, false, false, false, false, false, false, false, false, false, false] rfl rfl (take_ofW HT_.out HW_.out (by kernel_rfl)) (fun _ _ _ h => h) (Or.inl ⟨by rfl, ?_⟩) hHeld ?_ ?_
            rotate_left
            · rintro w' hS
              obtain ⟨s0, s1, s2, s3, s4, s5, s6, s7⟩ := hS.cells
              clear hS
              go_simp
              with_reducible rfl
            rotate_left
            · simp only [Act.put, List.setIfInBounds_toArray, List.set_cons_zero, List.set_cons_succ, i64_w, i32_w]
              rfl
            refine take_ (i := 8) (N := some 40) (v := ?_) (a' := ?_) #[true, true, true, true, true, true, true, true, true, false, false, false, false, false, false, false, false, false, false] rfl rfl (take_ofW HT_.out HW_.out (by kernel_rfl)) (fun _ _ _ h => h) (Or.inl ⟨by rfl, ?_⟩) hHeld ?_ ?_
            rotate_left
            · rintro w' hS
              obtain ⟨s0, s1, s2, s3, s4, s5, s6, s7⟩ := hS.cells
              clear hS
              go_simp
              with_reducible rfl
            rotate_left
            · simp only [Act.put, List.setIfInBounds_toArray, List.set_cons_zero, List.set_cons_succ, i64_w, i32_w]
              rfl
            refine take_ (i := 9) (N := some 41) (v := ?_) (a' := ?_) #[true, true, true, true, true, true, true, true, true, true, false, false, false, false, false, false, false, false, false] rfl rfl (take_ofW HT_.out HW_.out (by kernel_rfl)) (fun _ _ _ h => h) (Or.inl ⟨by rfl, ?_⟩) hHeld ?_ ?_
            rotate_left
            · rintro w' hS
              obtain ⟨s0, s1, s2, s3, s4, s5, s6, s7⟩ := hS.cells
              clear hS
              go_simp
              with_reducible rfl
            rotate_left
            · simp only [Act.put, List.setIfInBounds_toArray, List.set_cons_zero, List.set_cons_succ, i64_w, i32_w]
              rfl
            refine take_ (i := 10) (N := some 42) (v := ?_) (a' := ?_) #[true, true, true, true, true, true, true, true, true, true, true, false, false, false, false, false, false, false, false] rfl rfl (take_ofW HT_.out HW_.out (by kernel_rfl)) (fun _ _ _ h => h) (Or.inl ⟨by rfl, ?_⟩) hHeld ?_ ?_
            rotate_left
            · rintro w' hS
              obtain ⟨s0, s1, s2, s3, s4, s5, s6, s7⟩ := hS.cells
              clear hS
              go_simp
              with_reducible rfl
            rotate_left
            · simp only [Act.put, List.setIfInBounds_toArray, List.set_cons_zero, List.set_cons_succ, i64_w, i32_w]
              rfl
            refine take_ (i := 11) (N := some 43) (v := ?_) (a' := ?_) #[true, true, true, true, true, true, true, true, true, true, true, true, false, false, false, false, false, false, false] rfl rfl (take_ofW HT_.out HW_.out (by kernel_rfl)) (fun _ _ _ h => h) (Or.inl ⟨by rfl, ?_⟩) hHeld ?_ ?_
            rotate_left
            · rintro w' hS
              obtain ⟨s0, s1, s2, s3, s4, s5, s6, s7⟩ := hS.cells
              clear hS
              go_simp
              with_reducible rfl
            rotate_left
            · simp only [Act.put, List.setIfInBounds_toArray, List.set_cons_zero, List.set_cons_succ, i64_w, i32_w]
              rfl
            refine take_ (i := 12) (N := some 44) (v := ?_) (a' := ?_) #[true, true, true, true, true, true, true, true, true, true, true, true, true, false, false, false, false, false, false] rfl rfl (take_ofW HT_.out HW_.out (by kernel_rfl)) (fun _ _ _ h => h) (Or.inl ⟨by rfl, ?_⟩) hHeld ?_ ?_
            rotate_left
            · rintro w' hS
              obtain ⟨s0, s1, s2, s3, s4, s5, s6, s7⟩ := hS.cells
              clear hS
              go_simp
              with_reducible rfl
            rotate_left
            · simp only [Act.put, List.setIfInBounds_toArray, List.set_cons_zero, List.set_cons_succ, i64_w, i32_w]
              rfl
            refine take_ (i := 13) (N := some 45) (v := ?_) (a' := ?_) #[true, true, true, true, true, true, true, true, true, true, true, true, true, true, false, false, false, false, false] rfl rfl (take_ofW HT_.out HW_.out (by kernel_rfl)) (fun _ _ _ h => h) (Or.inl ⟨by rfl, ?_⟩) hHeld ?_ ?_
            rotate_left
            · rintro w' hS
              obtain ⟨s0, s1, s2, s3, s4, s5, s6, s7⟩ := hS.cells
              clear hS
              go_simp
              with_reducible rfl
            rotate_left
            · simp only [Act.put, List.setIfInBounds_toArray, List.set_cons_zero, List.set_cons_succ, i64_w, i32_w]
              rfl
            refine take_ (i := 14) (N := some 46) (v := ?_) (a' := ?_) #[true, true, true, true, true, true, true, true, true, true, true, true, true, true, true, false, false, false, false] rfl rfl (take_ofW HT_.out HW_.out (by kernel_rfl)) (fun _ _ _ h => h) (Or.inl ⟨by rfl, ?_⟩) hHeld ?_ ?_
            rotate_left
            · rintro w' hS
              obtain ⟨s0, s1, s2, s3, s4, s5, s6, s7⟩ := hS.cells
              clear hS
              go_simp
              with_reducible rfl
            rotate_left
            · simp only [Act.put, List.setIfInBounds_toArray, List.set_cons_zero, List.set_cons_succ, i64_w, i32_w]
              rfl
            refine one_ (i := 15) (N := some 47) #[true, true, true, true, true, true, true, true, true, true, true, true, true, true, true, true, false, false, false] rfl rfl (one_of HT_.out (by kernel_rfl)) (by decide) (fun K hK => ?_)
            refine callv_ (t := 43) (fn := _) (hf77 jn hj3) (hn77 jn hj3) (hb77 jn hj3) #[.agg #[.int .i64 L, .int .i64 st, .slice A xs.length c], .int .i64 l] (by rfl) rfl rfl rfl (by simp [Act.eval]) ?_
            refine (to_calls jn hj3 L st A c xs l _ hHeld.st.reads hHeld.st.cap hL hL1 h0 h1).mono ?_
            rintro e w3 ⟨rfl, hb3⟩
            refine ⟨_, rfl, hK.out _ _ (hHeld.below hb3) ?_⟩
            clear hHeld hb3
            intro hHeld
            clear hK K
            refine norm_ (a' := ?_) ?_ ?_
            rotate_left
            · show Act.put _ (some 47) _ = _
              simp only [Act.put, List.setIfInBounds_toArray, List.set_cons_zero, List.set_cons_succ, i64_w, i32_w]
              rfl
            refine take_ (i := 16) (N := some 48) (v := ?_) (a' := ?_) #[true, true, true, true, true, true, true, true, true, true, true, true, true, true, true, true, true, false, false] rfl rfl (take_ofW HT_.out HW_.out (by kernel_rfl)) (fun _ _ _ h => h) (Or.inl ⟨by rfl, ?_⟩) hHeld ?_ ?_
            rotate_left
            · rintro w' hS
              obtain ⟨s0, s1, s2, s3, s4, s5, s6, s7⟩ := hS.cells
              clear hS
              go_simp
              with_reducible rfl
            rotate_left
            · simp only [Act.put, List.setIfInBounds_toArray, List.set_cons_zero, List.set_cons_succ, i64_w, i32_w]
              rfl
            refine one_ (i := 17) (N := some 49) #[true, true, true, true, true, true, true, true, true, true, true, true, true, true, true, true, true, true, false] rfl rfl (one_of HT_.out (by kernel_rfl)) (by decide) (fun K hK => ?_)
            refine callv_ (t := 38) Try.func68 (by kernel_rfl) rfl #[.agg #[.int .i64 (k + 1 : Nat), .int .i64 (nxt L l jn)], .pointer (some ⟨bs, 0, none⟩), .pointer (some ⟨bk, 0, none⟩), .pointer (some ⟨bm, 0, none⟩), .pointer (some ⟨bc, 0, none⟩)] (by rfl) rfl rfl rfl (by simp [Act.eval, Hwk.out]) ?_
            refine (ih.out (nxt L l jn) _ hnx.1 hnx.2 hHeld.st).mono ?_
            rintro e w4 ⟨rfl, hc4, hm4⟩
            rw [Hcan.out]
            refine ⟨_, rfl, hK.out _ _ (hHeld.changed hc4 hm4) ?_⟩
            clear hHeld hc4 hm4
            intro hHeld
            clear hK K
            refine norm_ (a' := ?_) ?_ ?_
            rotate_left
            · show Act.put _ (some 49) _ = _
              simp only [Act.put, List.setIfInBounds_toArray, List.set_cons_zero, List.set_cons_succ, i64_w, i32_w]
              rfl
            refine take_ (i := 18) (N := some 50) (v := ?_) (a' := ?_) #[true, true, true, true, true, true, true, true, true, true, true, true, true, true, true, true, true, true, true] rfl rfl (take_ofW HT_.out HW_.out (by kernel_rfl)) (fun _ _ _ h => h) (Or.inl ⟨by rfl, ?_⟩) hHeld ?_ ?_
            rotate_left
            · rintro w' hS
              obtain ⟨s0, s1, s2, s3, s4, s5, s6, s7⟩ := hS.cells
              clear hS
              go_simp
              with_reducible rfl
            rotate_left
            · simp only [Act.put, List.setIfInBounds_toArray, List.set_cons_zero, List.set_cons_succ, i64_w, i32_w]
              rfl
            refine done_ (done_of HT_.out (by kernel_rfl)) ?_

            go_wp2_with fail
            go_roundw
            case rel =>
              refine ⟨jn + 1, by omega, by go_num, rfl, ⟨fun r hr => ?_⟩, ⟨hHeld.st⟩, ⟨hHeld.ch⟩, ⟨hHeld.box⟩, ⟨hHeld.mv⟩⟩
              rcases Nat.lt_succ_iff_lt_or_eq.1 hr with h | rfl
              · exact hno.out r h
              · rw [Hmay.out, Hcan.out]; rfl
            case measure => simp [intOf]; omega
          | true =>
            refine start_ (n := 19) (S := (CanS bs bm bk bc km L st A c xs W k l g gm jn)) (ds := []) #[false, false, false, false, false, false, false, false, false, false, false, false, false, false, false, false, false, false, false] (by kernel_rfl) rfl rfl (hst) (fun hHeld => ?_)
            generalize w8.drew = wd at hHeld ⊢
            refine with_tabW f68.tab9 f68.bits9 (fun HT_ HW_ => ?_)
            refine take_ (i := 0) (N := some 32) (v := ?_) (a' := ?_) #[true, false, false, false, false, false, false, false, false, false, false, false, false, false, false, false, false, false, false] rfl rfl (take_ofW HT_.out HW_.out (by kernel_rfl)) (fun _ _ _ h => h) (Or.inl ⟨by rfl, ?_⟩) hHeld ?_ ?_
            rotate_left
            · rintro w' hS
              obtain ⟨s0, s1, s2, s3, s4, s5, s6, s7⟩ := hS.cells
              clear hS
              go_simp
              with_reducible rfl
            rotate_left
            · simp only [Act.put, List.setIfInBounds_toArray, List.set_cons_zero, List.set_cons_succ, i64_w, i32_w]
              rfl
            refine take_ (i := 1) (N := some 33) (v := ?_) (a' := ?_) #[true, true, false, false, false, false, false, false, false, false, false, false, false, false, false, false, false, false, false] rfl rfl (take_ofW HT_.out HW_.out (by kernel_rfl)) (fun _ _ _ h => h) (Or.inl ⟨by rfl, ?_⟩) hHeld ?_ ?_
            rotate_left
            · rintro w' hS
              obtain ⟨s0, s1, s2, s3, s4, s5, s6, s7⟩ := hS.cells
              clear hS
              go_simp
              with_reducible rfl
            rotate_left
            · simp only [Act.put, List.setIfInBounds_toArray, List.set_cons_zero, List.set_cons_succ, i64_w, i32_w]
              rfl
            refine take_ (i := 2) (N := some 34) (v := ?_) (a' := ?_) #[true, true, true, false, false, false, false, false, false, false, false, false, false, false, false, false, false, false, false] rfl rfl (take_ofW HT_.out HW_.out (by kernel_rfl)) (fun _ _ _ h => h) (Or.inl ⟨by rfl, ?_⟩) hHeld ?_ ?_
            rotate_left
            · rintro w' hS
              obtain ⟨s0, s1, s2, s3, s4, s5, s6, s7⟩ := hS.cells
              clear hS
              go_simp
              with_reducible rfl
            rotate_left
            · simp only [Act.put, List.setIfInBounds_toArray, List.set_cons_zero, List.set_cons_succ, i64_w, i32_w]
              rfl
            refine take_ (i := 3) (N := some 35) (v := ?_) (a' := ?_) #[true, true, true, true, false, false, false, false, false, false, false, false, false, false, false, false, false, false, false] rfl rfl (take_ofW HT_.out HW_.out (by kernel_rfl)) (fun _ _ _ h => h) (Or.inl ⟨by rfl, ?_⟩) hHeld ?_ ?_
            rotate_left
            · rintro w' hS
              obtain ⟨s0, s1, s2, s3, s4, s5, s6, s7⟩ := hS.cells
              clear hS
              go_simp
              with_reducible rfl
            rotate_left
            · simp only [Act.put, List.setIfInBounds_toArray, List.set_cons_zero, List.set_cons_succ, i64_w, i32_w]
              rfl
            refine one_ (i := 4) (N := some 36) #[true, true, true, true, true, false, false, false, false, false, false, false, false, false, false, false, false, false, false] rfl rfl (one_of HT_.out (by kernel_rfl)) (by decide) (fun K hK => ?_)
            refine callv_ (t := 32) Try.func60 (by kernel_rfl) rfl #[.agg #[.int .i64 L, .int .i64 st, .slice A xs.length c], .agg #[.int .i64 k, .int .i64 l], .int .u8 jn] (by rfl) rfl rfl rfl (by simp [Act.eval, hw8]) ?_
            refine (may_calls L st A c xs k x l jn _ hHeld.st.reads hHeld.st.cap HXK.out).mono ?_
            rintro e w2 ⟨rfl, hb2⟩
            rw [Hmay.out]
            refine ⟨_, rfl, hK.out _ _ (hHeld.below hb2) ?_⟩
            clear hHeld hb2
            intro hHeld
            clear hK K
            refine norm_ (a' := ?_) ?_ ?_
            rotate_left
            · show Act.put _ (some 36) _ = _
              simp only [Act.put, List.setIfInBounds_toArray, List.set_cons_zero, List.set_cons_succ, i64_w, i32_w]
              rfl
            refine take_ (i := 5) (N := some 37) (v := ?_) (a' := ?_) #[true, true, true, true, true, true, false, false, false, false, false, false, false, false, false, false, false, false, false] rfl rfl (take_ofW HT_.out HW_.out (by kernel_rfl)) (fun _ _ _ h => h) (Or.inl ⟨by rfl, ?_⟩) hHeld ?_ ?_
            rotate_left
            · rintro w' hS
              obtain ⟨s0, s1, s2, s3, s4, s5, s6, s7⟩ := hS.cells
              clear hS
              go_simp
              with_reducible rfl
            rotate_left
            · simp only [Act.put, List.setIfInBounds_toArray, List.set_cons_zero, List.set_cons_succ, i64_w, i32_w]
              rfl
            refine take_ (i := 6) (N := some 38) (v := ?_) (a' := ?_) #[true, true, true, true, true, true, true, false, false, false, false, false, false, false, false, false, false, false, false] rfl rfl (take_ofW HT_.out HW_.out (by kernel_rfl)) (fun _ _ _ h => h) (Or.inl ⟨by rfl, ?_⟩) hHeld ?_ ?_
            rotate_left
            · rintro w' hS
              obtain ⟨s0, s1, s2, s3, s4, s5, s6, s7⟩ := hS.cells
              clear hS
              go_simp
              with_reducible rfl
            rotate_left
            · simp only [Act.put, List.setIfInBounds_toArray, List.set_cons_zero, List.set_cons_succ, i64_w, i32_w]
              rfl
            refine take_ (i := 7) (N := some 39) (v := ?_) (a' := ?_) #[true, true, true, true, true, true, true, true, false, false, false, false, false, false, false, false, false, false, false] rfl rfl (take_ofW HT_.out HW_.out (by kernel_rfl)) (fun _ _ _ h => h) (Or.inl ⟨by rfl, ?_⟩) hHeld ?_ ?_
            rotate_left
            · rintro w' hS
              obtain ⟨s0, s1, s2, s3, s4, s5, s6, s7⟩ := hS.cells
              clear hS
              go_simp
              with_reducible rfl
            rotate_left
            · simp only [Act.put, List.setIfInBounds_toArray, List.set_cons_zero, List.set_cons_succ, i64_w, i32_w]
              rfl
            refine take_ (i := 8) (N := some 40) (v := ?_) (a' := ?_) #[true, true, true, true, true, true, true, true, true, false, false, false, false, false, false, false, false, false, false] rfl rfl (take_ofW HT_.out HW_.out (by kernel_rfl)) (fun _ _ _ h => h) (Or.inl ⟨by rfl, ?_⟩) hHeld ?_ ?_
            rotate_left
            · rintro w' hS
              obtain ⟨s0, s1, s2, s3, s4, s5, s6, s7⟩ := hS.cells
              clear hS
              go_simp
              with_reducible rfl
            rotate_left
            · simp only [Act.put, List.setIfInBounds_toArray, List.set_cons_zero, List.set_cons_succ, i64_w, i32_w]
              rfl
            refine take_ (i := 9) (N := some 41) (v := ?_) (a' := ?_) #[true, true, true, true, true, true, true, true, true, true, false, false, false, false, false, false, false, false, false] rfl rfl (take_ofW HT_.out HW_.out (by kernel_rfl)) (fun _ _ _ h => h) (Or.inl ⟨by rfl, ?_⟩) hHeld ?_ ?_
            rotate_left
            · rintro w' hS
              obtain ⟨s0, s1, s2, s3, s4, s5, s6, s7⟩ := hS.cells
              clear hS
              go_simp
              with_reducible rfl
            rotate_left
            · simp only [Act.put, List.setIfInBounds_toArray, List.set_cons_zero, List.set_cons_succ, i64_w, i32_w]
              rfl
            refine take_ (i := 10) (N := some 42) (v := ?_) (a' := ?_) #[true, true, true, true, true, true, true, true, true, true, true, false, false, false, false, false, false, false, false] rfl rfl (take_ofW HT_.out HW_.out (by kernel_rfl)) (fun _ _ _ h => h) (Or.inl ⟨by rfl, ?_⟩) hHeld ?_ ?_
            rotate_left
            · rintro w' hS
              obtain ⟨s0, s1, s2, s3, s4, s5, s6, s7⟩ := hS.cells
              clear hS
              go_simp
              with_reducible rfl
            rotate_left
            · simp only [Act.put, List.setIfInBounds_toArray, List.set_cons_zero, List.set_cons_succ, i64_w, i32_w]
              rfl
            refine take_ (i := 11) (N := some 43) (v := ?_) (a' := ?_) #[true, true, true, true, true, true, true, true, true, true, true, true, false, false, false, false, false, false, false] rfl rfl (take_ofW HT_.out HW_.out (by kernel_rfl)) (fun _ _ _ h => h) (Or.inl ⟨by rfl, ?_⟩) hHeld ?_ ?_
            rotate_left
            · rintro w' hS
              obtain ⟨s0, s1, s2, s3, s4, s5, s6, s7⟩ := hS.cells
              clear hS
              go_simp
              with_reducible rfl
            rotate_left
            · simp only [Act.put, List.setIfInBounds_toArray, List.set_cons_zero, List.set_cons_succ, i64_w, i32_w]
              rfl
            refine take_ (i := 12) (N := some 44) (v := ?_) (a' := ?_) #[true, true, true, true, true, true, true, true, true, true, true, true, true, false, false, false, false, false, false] rfl rfl (take_ofW HT_.out HW_.out (by kernel_rfl)) (fun _ _ _ h => h) (Or.inl ⟨by rfl, ?_⟩) hHeld ?_ ?_
            rotate_left
            · rintro w' hS
              obtain ⟨s0, s1, s2, s3, s4, s5, s6, s7⟩ := hS.cells
              clear hS
              go_simp
              with_reducible rfl
            rotate_left
            · simp only [Act.put, List.setIfInBounds_toArray, List.set_cons_zero, List.set_cons_succ, i64_w, i32_w]
              rfl
            refine take_ (i := 13) (N := some 45) (v := ?_) (a' := ?_) #[true, true, true, true, true, true, true, true, true, true, true, true, true, true, false, false, false, false, false] rfl rfl (take_ofW HT_.out HW_.out (by kernel_rfl)) (fun _ _ _ h => h) (Or.inl ⟨by rfl, ?_⟩) hHeld ?_ ?_
            rotate_left
            · rintro w' hS
              obtain ⟨s0, s1, s2, s3, s4, s5, s6, s7⟩ := hS.cells
              clear hS
              go_simp
              with_reducible rfl
            rotate_left
            · simp only [Act.put, List.setIfInBounds_toArray, List.set_cons_zero, List.set_cons_succ, i64_w, i32_w]
              rfl
            refine take_ (i := 14) (N := some 46) (v := ?_) (a' := ?_) #[true, true, true, true, true, true, true, true, true, true, true, true, true, true, true, false, false, false, false] rfl rfl (take_ofW HT_.out HW_.out (by kernel_rfl)) (fun _ _ _ h => h) (Or.inl ⟨by rfl, ?_⟩) hHeld ?_ ?_
            rotate_left
            · rintro w' hS
              obtain ⟨s0, s1, s2, s3, s4, s5, s6, s7⟩ := hS.cells
              clear hS
              go_simp
              with_reducible rfl
            rotate_left
            · simp only [Act.put, List.setIfInBounds_toArray, List.set_cons_zero, List.set_cons_succ, i64_w, i32_w]
              rfl
            refine one_ (i := 15) (N := some 47) #[true, true, true, true, true, true, true, true, true, true, true, true, true, true, true, true, false, false, false] rfl rfl (one_of HT_.out (by kernel_rfl)) (by decide) (fun K hK => ?_)
            refine callv_ (t := 43) (fn := _) (hf77 jn hj3) (hn77 jn hj3) (hb77 jn hj3) #[.agg #[.int .i64 L, .int .i64 st, .slice A xs.length c], .int .i64 l] (by rfl) rfl rfl rfl (by simp [Act.eval]) ?_
            refine (to_calls jn hj3 L st A c xs l _ hHeld.st.reads hHeld.st.cap hL hL1 h0 h1).mono ?_
            rintro e w3 ⟨rfl, hb3⟩
            refine ⟨_, rfl, hK.out _ _ (hHeld.below hb3) ?_⟩
            clear hHeld hb3
            intro hHeld
            clear hK K
            refine norm_ (a' := ?_) ?_ ?_
            rotate_left
            · show Act.put _ (some 47) _ = _
              simp only [Act.put, List.setIfInBounds_toArray, List.set_cons_zero, List.set_cons_succ, i64_w, i32_w]
              rfl
            refine take_ (i := 16) (N := some 48) (v := ?_) (a' := ?_) #[true, true, true, true, true, true, true, true, true, true, true, true, true, true, true, true, true, false, false] rfl rfl (take_ofW HT_.out HW_.out (by kernel_rfl)) (fun _ _ _ h => h) (Or.inl ⟨by rfl, ?_⟩) hHeld ?_ ?_
            rotate_left
            · rintro w' hS
              obtain ⟨s0, s1, s2, s3, s4, s5, s6, s7⟩ := hS.cells
              clear hS
              go_simp
              with_reducible rfl
            rotate_left
            · simp only [Act.put, List.setIfInBounds_toArray, List.set_cons_zero, List.set_cons_succ, i64_w, i32_w]
              rfl
            refine one_ (i := 17) (N := some 49) #[true, true, true, true, true, true, true, true, true, true, true, true, true, true, true, true, true, true, false] rfl rfl (one_of HT_.out (by kernel_rfl)) (by decide) (fun K hK => ?_)
            refine callv_ (t := 38) Try.func68 (by kernel_rfl) rfl #[.agg #[.int .i64 (k + 1 : Nat), .int .i64 (nxt L l jn)], .pointer (some ⟨bs, 0, none⟩), .pointer (some ⟨bk, 0, none⟩), .pointer (some ⟨bm, 0, none⟩), .pointer (some ⟨bc, 0, none⟩)] (by rfl) rfl rfl rfl (by simp [Act.eval, Hwk.out]) ?_
            refine (ih.out (nxt L l jn) _ hnx.1 hnx.2 hHeld.st).mono ?_
            rintro e w4 ⟨rfl, hc4, hm4⟩
            rw [Hcan.out]
            refine ⟨_, rfl, hK.out _ _ (hHeld.changed hc4 hm4) ?_⟩
            clear hHeld hc4 hm4
            intro hHeld
            clear hK K
            refine norm_ (a' := ?_) ?_ ?_
            rotate_left
            · show Act.put _ (some 49) _ = _
              simp only [Act.put, List.setIfInBounds_toArray, List.set_cons_zero, List.set_cons_succ, i64_w, i32_w]
              rfl
            refine take_ (i := 18) (N := some 50) (v := ?_) (a' := ?_) #[true, true, true, true, true, true, true, true, true, true, true, true, true, true, true, true, true, true, true] rfl rfl (take_ofW HT_.out HW_.out (by kernel_rfl)) (fun _ _ _ h => h) (Or.inl ⟨by rfl, ?_⟩) hHeld ?_ ?_
            rotate_left
            · rintro w' hS
              obtain ⟨s0, s1, s2, s3, s4, s5, s6, s7⟩ := hS.cells
              clear hS
              go_simp
              with_reducible rfl
            rotate_left
            · simp only [Act.put, List.setIfInBounds_toArray, List.set_cons_zero, List.set_cons_succ, i64_w, i32_w]
              rfl
            refine done_ (done_of HT_.out (by kernel_rfl)) ?_

            have hcan : canB L l (xs.drop k) = true := canB_yes HXK.out hj3 Hmay.out Hcan.out
            obtain ⟨W', hput, hm', hc'⟩ := run_memo_put hHeld.st.memo hL hx hk h0 h1
            rw [hcan] at hput
            have hkn := hHeld.kn
            have hk0 := hHeld.k0
            have hk1 := hHeld.k1
            have HF := Aside0.mk (And.intro hcan (And.intro (hHeld.ch.trans hc') hm'))
            clear hHeld hc' hm' hcan
            go_wp2_with fail
            rw [Exit.noGoto_ret]
            go_ret
            exact ⟨by rw [HF.out.1]; rfl, HF.out.2.1, HF.out.2.2⟩
      · have hj4 : (3 : Int) ≤ (jn : Int) := by omega
        have hj6 : decide ((jn : Int) < 3) = false := decide_eq_false (by omega)
        have hcan : canB L l (xs.drop k) = false := by
          have : jn = 3 := by omega
          subst this
          exact canB_no HXK.out hno.out
        obtain ⟨W', hput, hm', hc'⟩ := run_memo_put hI.out.memo hL hx hk h0 h1
        rw [hcan] at hput
        have HF := Aside0.mk (And.intro hcan (And.intro (hC.out.trans hc') hm'))
        clear hc' hm' hcan
        go_wp2_with fail
        rw [Exit.noGoto_ret]
        go_ret
        exact ⟨by rw [HF.out.1]; rfl, HF.out.2.1, HF.out.2.2⟩
  · have HI := Aside0.mk hI
    clear hI
    go_enter Try.func68, Try.ntmps68
    go_wp2_with fail
    go_step3
    go_wp2_with fail
    rw [Exit.noGoto_ret]
    go_ret
    refine ⟨rfl, (Ch.refl _ W).alloc _, HI.out.memo.of_same (Below.heap_alloc _ _ _ ?_)⟩
    obtain ⟨es, cl, h, _⟩ := HI.out.memo
    exact (Array.getElem?_eq_some_iff.1 h).1
theorem can_calls (L st : Int) (A : Option Addr) (c : Nat) (xs : List S67) (bs bm bk bc km : Nat) (hL1 : 1 ≤ L) (hL : L ≤ 8) (hx : xs.length ≤ 14) : ∀ (d k : Nat), k + d = xs.length → CanSaid L st A c xs bs bm bk bc km k
  | 0, k, h => by
    obtain rfl : k = xs.length := by omega
    exact can_end L st A c xs bs bm bk bc km hx
  | d + 1, k, h => can_step L st A c xs bs bm bk bc km hL1 hL hx k (by omega) ⟨can_calls L st A c xs bs bm bk bc km hL1 hL hx d (k + 1) (by omega)⟩
end Go.Proofs.Ytkglggggmlnleaa.Print
