/- Plain laws of what was lost of a shaking. Truly. -/
import Derived.Test.YtkglggggmlnleaaM1
import Derived.Test.YtkglggggmlnleaaPk
import Derived.Test.YtkglggggmlnleaaM8
import Derived.Test.YtkglggggmlnleaaM4
namespace Go.Proofs.Ytkglggggmlnleaa.Print
open Go.RowKit Go.Proofs.YtkglggggmlnleaaW.PrintWords Go.Proofs.YtkglggggmlnleaaW.PrintLast Go.Proofs.YtkglggggmlnleaaW.PrintMore
set_option linter.unusedVariables false
set_option linter.unusedSimpArgs false

/-- What is lost of some runs: levels (p), results (q, six at most). -/
def loseS (p q : Nat → Bool) (zs : List S43) : Nat → List S43 × Int
  | 0 => ([], 6)
  | j + 1 =>
    match zs[j]? with
    | none => loseS p q zs j
    | some z => ((loseS p q zs j).1 ++ [⟨if p j then -1 else z.f0, if q j && decide (0 < (loseS p q zs j).2) then 3 else z.f1⟩], if q j && decide (0 < (loseS p q zs j).2) then (loseS p q zs j).2 - 1 else (loseS p q zs j).2)
theorem loseS_step (p q : Nat → Bool) (zs : List S43) (j : Nat) (z : S43) (hz : zs[j]? = some z) (s : List S43) (left : Int) (h1 : (loseS p q zs j).1 = s) (h2 : (loseS p q zs j).2 = left) :
    (loseS p q zs (j + 1)).1 = s ++ [⟨if p j then -1 else z.f0, if q j && decide (0 < left) then 3 else z.f1⟩] ∧ (loseS p q zs (j + 1)).2 = if q j && decide (0 < left) then left - 1 else left := by
  have e : loseS p q zs (j + 1) = ((loseS p q zs j).1 ++ [⟨if p j then -1 else z.f0, if q j && decide (0 < (loseS p q zs j).2) then 3 else z.f1⟩], if q j && decide (0 < (loseS p q zs j).2) then (loseS p q zs j).2 - 1 else (loseS p q zs j).2) := by rw [loseS, hz]
  rw [e, h1, h2]
  exact ⟨rfl, rfl⟩
def lost3 (l : List S43) : Int := ((l.filter fun x => decide (x.f1 = 3)).length : Nat)
theorem lose_spec (p q : Nat → Bool) (zs : List S43) (hz : ∀ z ∈ zs, z.f1 ≠ 3) : ∀ j, j ≤ zs.length → (loseS p q zs j).1.length = j ∧ lost3 (loseS p q zs j).1 + (loseS p q zs j).2 = 6 ∧ 0 ≤ (loseS p q zs j).2 ∧
    ∀ (i : Nat) (x z : S43), (loseS p q zs j).1[i]? = some x → zs[i]? = some z → (x.f0 = -1 ∨ x.f0 = z.f0) ∧ (x.f1 = 3 ∨ x.f1 = z.f1)
  | 0, _ => ⟨rfl, by simp [loseS, lost3], by simp [loseS], fun i x z h => by simp [loseS] at h⟩
  | j + 1, hj => by
    obtain ⟨a1, a2, a3, a4⟩ := lose_spec p q zs hz j (by omega)
    obtain ⟨z, hzj⟩ : ∃ z, zs[j]? = some z := ⟨_, List.getElem?_eq_getElem (by omega)⟩
    obtain ⟨b1, b2⟩ := loseS_step p q zs j z hzj _ _ rfl rfl
    have h3 : z.f1 ≠ 3 := hz z (List.mem_of_getElem? hzj)
    rw [b1, b2]
    refine ⟨by simp [a1], ?_, ?_, ?_⟩
    · unfold lost3 at a2 ⊢
      rw [List.filter_append, List.length_append]
      by_cases c : (q j && decide (0 < (loseS p q zs j).2)) = true
      · simp only [c, if_true, List.filter_cons, decide_true, List.filter_nil, List.length_cons, List.length_nil]
        omega
      · simp only [c, List.filter_cons, if_false, Bool.false_eq_true, h3, decide_false, List.filter_nil, List.length_nil]
        omega
    · split
      · rename_i c
        simp only [Bool.and_eq_true, decide_eq_true_eq] at c
        omega
      · exact a3
    · intro i x z' hx hz'
      by_cases hi : i < j
      · rw [List.getElem?_append_left (by omega)] at hx
        exact a4 i x z' hx hz'
      · rw [List.getElem?_append_right (by omega), a1] at hx
        have hij : i = j := by
          have := (List.getElem?_eq_some_iff.1 hx).1
          simp at this
          omega
        subst hij
        rw [hzj] at hz'
        injection hz' with hz'
        subst hz'
        rw [Nat.sub_self, List.getElem?_cons_zero] at hx
        injection hx with hx
        subst hx
        constructor
        · show (if p i then -1 else z.f0) = -1 ∨ (if p i then -1 else z.f0) = z.f0
          split
          · exact .inl rfl
          · exact .inr rfl
        · show (if (q i && decide (0 < (loseS p q zs i).2)) = true then (3 : Int) else z.f1) = 3 ∨ (if (q i && decide (0 < (loseS p q zs i).2)) = true then (3 : Int) else z.f1) = z.f1
          by_cases c : (q i && decide (0 < (loseS p q zs i).2)) = true
          · rw [if_pos c]; exact .inl rfl
          · rw [if_neg c]; exact .inr rfl
theorem shR_range (l : Int) (p : Int × Bool) : 0 ≤ shR l p ∧ shR l p < 3 := by unfold shR; split; omega; split <;> omega
theorem shake_mem (L : Int) : ∀ (ps : List (Int × Bool)) (l : Int), 0 ≤ l → l < L → ∀ z ∈ shakeZ L l ps, 0 ≤ z.f0 ∧ z.f0 < L ∧ 0 ≤ z.f1 ∧ z.f1 < 3
  | [], l, h0, h1, z, hz => by simp [shakeZ] at hz
  | p :: ps, l, h0, h1, z, hz => by
    rcases List.mem_cons.1 hz with rfl | hz
    · exact ⟨h0, h1, (shR_range l p).1, (shR_range l p).2⟩
    · have := nxt_range (L := L) (l := l) (r := shR l p) h0 h1
      exact shake_mem L ps _ this.1 this.2 z hz
theorem shake_hist (L : Int) : ∀ (ps : List (Int × Bool)) (l : Int), histOf L l ((shakeZ L l ps).map (·.f1)) = (shakeZ L l ps).map fun z => (z.f1, z.f0)
  | [], l => rfl
  | p :: ps, l => by
    simp only [shakeZ, List.map_cons, histOf]
    rw [shake_hist L ps]
theorem shake_walk (L : Int) : ∀ (ps : List (Int × Bool)) (l : Int) (xs : List S67), xs.length = ps.length → (∀ (i : Nat) (x : S67) (z : S43), xs[i]? = some x → (shakeZ L l ps)[i]? = some z → (x.f0 = -1 ∨ x.f0 = z.f0) ∧ (x.f1 = 3 ∨ x.f1 = z.f1)) → walkB L l xs ((shakeZ L l ps).map (·.f1)) = true
  | [], l, xs, hl, h => by
    obtain rfl := List.eq_nil_of_length_eq_zero hl
    rfl
  | p :: ps, l, [], hl, h => by simp at hl
  | p :: ps, l, x :: xs, hl, h => by
    have h0 := h 0 x ⟨l, shR l p⟩ rfl rfl
    have ih := shake_walk L ps (nxt L l (shR l p)) xs (by simpa using hl) (fun i y z hy hz => h (i + 1) y z (by simpa using hy) (by simpa [shakeZ] using hz))
    have hr := shR_range l p
    simp only [shakeZ, List.map_cons, walkB, Bool.and_eq_true, decide_eq_true_eq]
    refine ⟨⟨hr.2, ?_⟩, ih⟩
    unfold mayB
    simp only [Bool.and_eq_true, Bool.or_eq_true, beq_iff_eq]
    exact h0
theorem shake_limit (L : Int) : ∀ (ps : List (Int × Bool)) (l : Int), (∀ p ∈ ps, 0 ≤ p.1 ∧ p.1 ≤ L) → ∀ (i : Nat) (p : Int × Bool) (z : S43), ps[i]? = some p → (shakeZ L l ps)[i]? = some z → limit L false (z.f1, z.f0) ≤ p.1 ∧ p.1 ≤ limit L true (z.f1, z.f0)
  | [], l, hp, i, p, z, h1, h2 => by simp at h1
  | q :: ps, l, hp, 0, p, z, h1, h2 => by
    simp at h1
    subst h1
    simp [shakeZ] at h2
    subst h2
    have := hp q (by simp)
    unfold limit bnd shR
    cases q.2 with
    | true => simp; omega
    | false =>
      by_cases c : l < q.1
      · simp [c]; omega
      · simp [c]; omega
  | q :: ps, l, hp, i + 1, p, z, h1, h2 => shake_limit L ps _ (fun y hy => hp y (by simp [hy])) i p z (by simpa using h1) (by simpa [shakeZ] using h2)
/-- What is told of specimens that were shaken. -/
theorem truth_law {L st : Int} {ps : List (Int × Bool)} {zs ss : List S43} {p q : Nat → Bool} (hL1 : 1 ≤ L) (hL : L ≤ 8) (h0 : 0 ≤ st) (h1 : st < L) (hn : ps.length ≤ 14) (hp : ∀ y ∈ ps, 0 ≤ y.1 ∧ y.1 ≤ L) (hz : shakeZ L st ps = zs) (hs : (loseS p q zs zs.length).1 = ss) :
    ss.length = ps.length ∧ checkI L st (ss.map up) = 0 ∧ proveB L st (ss.map up) (zs.map (·.f1)) = true ∧ possI L st (ss.map up) = 0 ∧
    (∀ (i : Nat) (z : S43), zs[i]? = some z → (sp (lvAt (hists L st (ss.map up)) i)).1 ≤ z.f0 ∧ z.f0 ≤ (sp (lvAt (hists L st (ss.map up)) i)).2 ∧ z.f1 ∈ rowR (rsAt (hists L st (ss.map up)) i)) ∧
    (∀ i : Nat, i < ps.length → askE L st (ss.map up) i = 0 ∧ (rankR L st (ss.map up) i).1 ≤ (rising (ps.map (·.1))).getD i 0 ∧ (rising (ps.map (·.1))).getD i 0 ≤ (rankR L st (ss.map up) i).2) ∧
    ((midI (histOf L st (zs.map (·.f1)))).2 = true → midE L st (ss.map up) = 0 ∧ (midR L st (ss.map up)).1 ≤ (midI (histOf L st (zs.map (·.f1)))).1 ∧ (midI (histOf L st (zs.map (·.f1)))).1 ≤ (midR L st (ss.map up)).2) := by
  have hzl : zs.length = ps.length := by rw [← hz, shakeZ_len]
  have hzm : ∀ z ∈ zs, 0 ≤ z.f0 ∧ z.f0 < L ∧ 0 ≤ z.f1 ∧ z.f1 < 3 := by rw [← hz]; exact shake_mem L ps st h0 h1
  obtain ⟨a1, a2, a3, a4⟩ := lose_spec p q zs (fun z hm => by have := hzm z hm; omega) zs.length (Nat.le_refl _)
  rw [hs] at a1 a2 a4
  have hsl : ss.length = ps.length := by rw [a1, hzl]
  have hck : checkI L st (ss.map up) = 0 := by
    have hf : ((ss.map up).filter fun x => decide (x.f1 = 3)).length ≤ 6 := by
      rw [List.filter_map, List.length_map]
      have : (ss.filter fun x => decide (x.f1 = 3)).length ≤ 6 := by unfold lost3 at a2; omega
      exact this
    have hall : (ss.map up).all (runB L) = true := by
      rw [List.all_eq_true]
      intro y hy
      obtain ⟨x, hx, rfl⟩ := List.mem_map.1 hy
      obtain ⟨i, hi, rfl⟩ := List.getElem_of_mem hx
      obtain ⟨z, hzi⟩ : ∃ z, zs[i]? = some z := ⟨_, List.getElem?_eq_getElem (by omega)⟩
      have h2 := a4 i _ z (List.getElem?_eq_getElem hi) hzi
      have h3 := hzm z (List.mem_of_getElem? hzi)
      unfold runB up
      simp only [Bool.and_eq_true, decide_eq_true_eq]
      refine ⟨⟨?_, ?_⟩, ?_⟩
      · rcases h2.1 with e | e <;> omega
      · rcases h2.1 with e | e <;> omega
      · rcases h2.2 with e | e <;> omega
    unfold checkI
    rw [if_neg (by rw [List.length_map]; omega), if_neg]
    rintro (h | h)
    · exact h ⟨hL1, hL, h0, h1⟩
    · rw [hall] at h; cases h
  have hwk : walkB L st (ss.map up) (zs.map (·.f1)) = true := by
    rw [← hz]
    refine shake_walk L ps st _ (by simp [hsl]) (fun i x z hx hzi => ?_)
    rw [List.getElem?_map] at hx
    obtain ⟨y, hy, rfl⟩ := Option.map_eq_some_iff.1 hx
    exact a4 i y z hy (by rw [← hz]; exact hzi)
  have hmem : histOf L st (zs.map (·.f1)) ∈ hists L st (ss.map up) := walk_hist L st _ _ (by simp [hsl, hzl]) (fun r hr => by
    obtain ⟨z, hm, rfl⟩ := List.mem_map.1 hr
    have := hzm z hm
    omega) hwk
  have hheq : histOf L st (zs.map (·.f1)) = zs.map fun z => (z.f1, z.f0) := by rw [← hz]; exact shake_hist L ps st
  have hposs : possI L st (ss.map up) = 0 := poss_mk hck (List.ne_nil_of_mem hmem)
  refine ⟨hsl, hck, ?_, hposs, ?_, ?_, ?_⟩
  · unfold proveB
    rw [hck, hwk]
    simp [hsl, hzl]
  · intro i z hzi
    have hgd : (histOf L st (zs.map (·.f1))).getD i (0, 0) = (z.f1, z.f0) := by
      rw [hheq, List.getD_eq_getElem?_getD, List.getElem?_map, hzi]; rfl
    have hlv : z.f0 ∈ lvAt (hists L st (ss.map up)) i := List.mem_map.2 ⟨_, hmem, by rw [hgd]⟩
    have hrs : z.f1 ∈ rsAt (hists L st (ss.map up)) i := List.mem_map.2 ⟨_, hmem, by rw [hgd]⟩
    have h2 := (sp_mem _ (List.ne_nil_of_mem hlv)).2.2 _ hlv
    refine ⟨h2.1, h2.2, ?_⟩
    unfold rowR
    rw [List.mem_filter, decide_eq_true_eq]
    have := hzm z (List.mem_of_getElem? hzi)
    exact ⟨by simp; omega, hrs⟩
  · intro i hi
    have hask : askE L st (ss.map up) i = 0 := ask_0 hposs (by omega) (by simp; omega)
    rw [rank_0 hask]
    have hb := key_between L (histOf L st (zs.map (·.f1))) (ps.map (·.1)) (by rw [hheq]; simp [hzl]) (fun j x y hx hy => by
      rw [hheq, List.getElem?_map] at hy
      obtain ⟨z, hzj, rfl⟩ := Option.map_eq_some_iff.1 hy
      rw [List.getElem?_map] at hx
      obtain ⟨pp, hpj, rfl⟩ := Option.map_eq_some_iff.1 hx
      exact shake_limit L ps st hp j pp z hpj (by rw [hz]; exact hzj)) i (by rw [hheq]; simp [hzl]; omega)
    exact ⟨hask, Int.le_trans (endN_lo hmem) hb.1, Int.le_trans hb.2 (endN_hi hmem)⟩
  · intro hm
    have hin : (midI (histOf L st (zs.map (·.f1)))).1 ∈ mids (hists L st (ss.map up)) := by
      unfold mids
      rw [List.mem_filterMap]
      exact ⟨_, hmem, by rw [hm]; rfl⟩
    have hme : midE L st (ss.map up) = 0 := by rw [mid_0 hposs, if_neg (List.ne_nil_of_mem hin)]
    have h2 := (sp_mem _ (List.ne_nil_of_mem hin)).2.2 _ hin
    refine ⟨hme, ?_⟩
    unfold midR
    rw [if_pos hme]
    exact h2
end Go.Proofs.Ytkglggggmlnleaa.Print
namespace Go.Proofs.Ytkglggggmlnleaa.Print
open Go.RowKit Go.Proofs.YtkglggggmlnleaaW.PrintWords Go.Proofs.YtkglggggmlnleaaW.PrintLast Go.Proofs.YtkglggggmlnleaaW.PrintMore
set_option linter.unusedVariables false
set_option linter.unusedSimpArgs false

def bitB (x : Int) (i : Nat) : Bool := ((x / 2 ^ i).tmod 2 == 1)
theorem info3u : (Try.prog.info? 3).map (fun i => (i.zero, i.size, i.bytes)) = some (some (.int .i64 0), 1, 8) := by kernel_rfl
theorem info4u : (Try.prog.info? 4).map (fun i => (i.zero, i.size, i.bytes)) = some (some (.bool false), 1, 1) := by kernel_rfl
theorem info43u : (Try.prog.info? 43).map (fun i => (i.zero, i.size, i.bytes)) = some (some (.agg #[(.int .i64 0), (.int .u8 0)]), 2, 16) := by kernel_rfl
theorem R_bool_grown {e : Nat} {w w1 : World} {base : Nat} {ok : Nat → Prop} {v : Value} {xs : List Bool} {row : Option Nat} (h : Kd.R Kd.bool e w base ok v xs) (hg : w.grownBy w1 row) (hne : ∀ q, v.ownBlock = some q → some q ≠ row) : Kd.R Kd.bool e w1 base (fun _ => True) v xs :=
  Kd.R_mono (Kd.R_grown (ok := fun q => v.ownBlock = some q) ⟨fun _ hk => hk, h.2.imp_ (fun _ _ hp => hp)⟩ hg hne) (fun _ _ => trivial)
theorem apart_type {α β : Type} {d : Kd α} {d' : Kd β} {e e' base base' : Nat} {ok ok' : Nat → Prop} {w : World} {v u : Value} {xs : List α} {ys : List β} (h : d.R e w base ok v xs) (h' : d'.R e' w base' ok' u ys) (hne : e' ≠ e) : ∀ q, v.ownBlock = some q → some q ≠ u.ownBlock := fun q hq => by
  obtain ⟨inner, ho, _⟩ := h.2
  obtain ⟨cells, hc⟩ := own_typed ho q hq
  exact Kd.R_ne h' hc hne
theorem R_int_ch {k : IntKind} {e g t base : Nat} {cs : Array Value} {w w' : World} {ok : Nat → Prop} {v : Value} {xs : List Int} (h : Kd.R (Kd.int k) e w base ok v xs) (hc : Ch (fun b => b = g) w w') (hb : w.heap[g]? = some (.cells cs t (0, 0))) (ht : e ≠ t) : Kd.R (Kd.int k) e w' base (fun _ => True) v xs :=
  Kd.R_mono (Kd.R_step (ok := fun q => v.ownBlock = some q) ⟨fun _ hk => hk, h.2.imp_ (fun _ _ hp => hp)⟩ (fun q hq hlt => hc.block q hlt (fun e => Kd.R_ne h hb ht (by rw [← e, hq])))) (fun _ _ => trivial)
theorem R43_ch {e g t base : Nat} {cs : Array Value} {w w' : World} {ok : Nat → Prop} {v : Value} {xs : List S43} (h : Kd.R k43 e w base ok v xs) (hc : Ch (fun b => b = g) w w') (hb : w.heap[g]? = some (.cells cs t (0, 0))) (ht : e ≠ t) : Kd.R k43 e w' base (fun _ => True) v xs :=
  Kd.R_mono (Kd.R_step (ok := fun q => v.ownBlock = some q) ⟨fun _ hk => hk, h.2.imp_ (fun _ _ hp => k43_mkM' hp)⟩ (fun q hq hlt => hc.block q hlt (fun e => Kd.R_ne h hb ht (by rw [← e, hq])))) (fun _ _ => trivial)
theorem below_ch {S : Nat → Prop} {a b c : World} (hb : Below a.heap.size b c) (h : Ch S a b) : Ch S a c := Ch.then_ (S1 := S) (S2 := fun i => a.heap.size ≤ i) h (Ch.of_belowB hb (fun _ _ hi => hi)) (fun _ _ hi => hi) (fun i hi hi2 => absurd hi (by omega))
theorem lose_le (p q : Nat → Bool) (zs : List S43) : ∀ j, (loseS p q zs j).2 ≤ 6
  | 0 => by simp [loseS]
  | j + 1 => by
    have h := lose_le p q zs j
    cases hz : zs[j]? with
    | none => rw [loseS, hz]; exact h
    | some z =>
      rw [(loseS_step p q zs j z hz _ _ rfl rfl).2]
      split <;> omega
theorem lose_len (p q : Nat → Bool) (zs : List S43) : ∀ j, j ≤ zs.length → (loseS p q zs j).1.length = j
  | 0, _ => rfl
  | j + 1, hj => by
    obtain ⟨b1, _⟩ := loseS_step p q zs j _ (List.getElem?_eq_getElem (by omega : j < zs.length)) _ _ rfl rfl
    rw [b1, List.length_append, lose_len p q zs j (by omega)]; rfl
theorem mod_range {L : Int} (hL : 1 ≤ L) (l : List Int) : ∀ t ∈ l.map (fun v => v % (L + 1)), 0 ≤ t ∧ t ≤ L := by
  intro t ht
  obtain ⟨x, _, rfl⟩ := List.mem_map.1 ht
  exact ⟨Int.emod_nonneg _ (by omega), by have := Int.emod_lt_of_pos x (by omega : 0 < L + 1); omega⟩
theorem refshake_n (L st : Int) (A : Option Addr) (c : Nat) (ls : List Int) (A1 : Option Addr) (c1 : Nat) (bs : List Bool) (n : Nat) (hn : ls.length = n) (hbn : bs.length = n) (w : World) (hr : Kd.C (Kd.int .i64) w A n ls) (hr1 : Kd.C Kd.bool w A1 n bs) (hL : L ≤ 8) (h0 : 0 ≤ st) (h1 : st < L) (hl : n ≤ 1000) :
    Calls Try.prog 39 #[.int .i64 L, .int .i64 st, .slice A n c, .slice A1 n c1] w fun e w' => ∃ v, e = .returned v ∧ Kd.R k43 43 w' w.heap.size (fun _ => True) v (shakeZ L st (ls.zip bs)) ∧ Below w.heap.size w w' := by
  subst hn
  have := refshake_calls L st A c ls A1 c1 bs w hr (by rw [hbn]; exact hr1) hL h0 h1 hl hbn
  rwa [hbn] at this
set_option maxHeartbeats 4000000 in
set_option maxRecDepth 100000 in
theorem truly_calls (lv sv : Int) (A : Option Addr) (c : Nat) (ls : List Int) (stops lost : Int) (w : World) (hr : Kd.C (Kd.int .u8) w A ls.length ls) (hv : 0 ≤ lv ∧ lv < 256) (hw : 0 ≤ sv ∧ sv < 256) (hu : ∀ v ∈ ls, 0 ≤ v ∧ v < 256) (hl : ls.length ≤ 9223372036854775807) (hb : 0 ≤ stops ∧ stops < 65536) (hb2 : 0 ≤ lost ∧ lost < 65536) :
    Calls Try.prog 43 #[.int .u8 lv, .int .u8 sv, .slice A ls.length c, .int .u16 stops, .int .u16 lost] w fun e w' => ∃ (L st : Int) (vs vt vr : Value) (zs ss : List S43) (ts : List Int) (bs : List Bool), e = .returned (.tuple #[.agg #[.int .i64 L, .int .i64 st, vs], vt, vr]) ∧ 1 ≤ L ∧ L ≤ 8 ∧ 0 ≤ st ∧ st < L ∧ Kd.R k43 43 w' w.heap.size (fun _ => True) vs ss ∧ Kd.R k43 43 w' w.heap.size (fun _ => True) vr zs ∧ Kd.R (Kd.int .i64) 3 w' w.heap.size (fun _ => True) vt ts ∧ shakeZ L st (ts.zip bs) = zs ∧ ts.length = bs.length ∧ ts.length ≤ 14 ∧ (∀ t ∈ ts, 0 ≤ t ∧ t ≤ L) ∧ (∃ p q, (loseS p q zs zs.length).1 = ss) ∧ Below w.heap.size w w' := by
  obtain ⟨v0, v1⟩ := hv
  obtain ⟨v2, v3⟩ := hw
  have HR := Aside0.mk hr
  have HU := Aside0.mk hu
  clear hr hu
  obtain ⟨L, hL⟩ : ∃ L, 1 + lv % 8 = L := ⟨_, rfl⟩
  have hL1 : 1 ≤ L := by omega
  have hL8 : L ≤ 8 := by omega
  obtain ⟨st, hst⟩ : ∃ st, sv % L = st := ⟨_, rfl⟩
  have hs0 : 0 ≤ st := by rw [← hst]; exact Int.emod_nonneg _ (by omega)
  have hs1 : st < L := by rw [← hst]; exact Int.emod_lt_of_pos _ (by omega)
  go_enter Try.func43, Try.ntmps43
  go_wp2_with fail
  rw [hst]
  have HST := Aside0.mk hst
  have HLL := Aside0.mk hL
  clear hst hL
  obtain ⟨m, hm⟩ : ∃ m, m = min ls.length 14 := ⟨_, rfl⟩
  have hm1 : m ≤ ls.length := by omega
  have hm14 : m ≤ 14 := by omega
  have HM := Aside0.mk hm
  clear hm
  have BA : Aside0 (((w.alloc (.cells #[.int .i64 0, .int .i64 0, .slice none 0 0] 24)).alloc (.cells #[.int .i64 L, .int .i64 st, .slice none 0 0] 24)).heap[w.heap.size]? = some (.cells #[.int .i64 0, .int .i64 0, .slice none 0 0] 24 (0, 0))) := ⟨blk_alloc (new_at rfl) _⟩
  have BS : Aside0 (((w.alloc (.cells #[.int .i64 0, .int .i64 0, .slice none 0 0] 24)).alloc (.cells #[.int .i64 L, .int .i64 st, .slice none 0 0] 24)).heap[w.heap.size + 1]? = some (.cells #[.int .i64 L, .int .i64 st, .slice none 0 0] 24 (0, 0))) := ⟨new_at (by simp)⟩
  have KB : Aside0 (Below w.heap.size w ((w.alloc (.cells #[.int .i64 0, .int .i64 0, .slice none 0 0] 24)).alloc (.cells #[.int .i64 L, .int .i64 st, .slice none 0 0] 24))) := ⟨((Below.refl _ w).alloc (by simp) _).alloc (by simp) _⟩
  generalize ((w.alloc (.cells #[.int .i64 0, .int .i64 0, .slice none 0 0] 24)).alloc (.cells #[.int .i64 L, .int .i64 st, .slice none 0 0] 24)) = w2 at BA BS KB ⊢
  go_loopw [15, 16, 17] (fun t b i wr => ∃ (jn : Nat) (vt vc : Value), jn ≤ m ∧ i = .int .i64 jn ∧ vt = t ∧ vc = b ∧ Aside0 (Kd.R (Kd.int .i64) 3 wr w.heap.size (fun _ => True) vt ((ls.take jn).map fun v => v % (L + 1))) ∧ Aside0 (Kd.R Kd.bool 4 wr w.heap.size (fun _ => True) vc ((List.range jn).map (bitB stops))) ∧ Aside0 (wr.heap[w.heap.size]? = some (.cells #[.int .i64 0, .int .i64 0, .slice none 0 0] 24 (0, 0))) ∧ Aside0 (wr.heap[w.heap.size + 1]? = some (.cells #[.int .i64 L, .int .i64 st, .slice none 0 0] 24 (0, 0))) ∧ Aside0 (Below w.heap.size w wr)) (fun _ _ i _ => m - (intOf i).toNat)
  case atStart => exact ⟨0, _, _, by omega, rfl, rfl, rfl, ⟨Kd.R_nil _ _ _ _ _⟩, ⟨Kd.R_nil _ _ _ _ _⟩, BA, BS, KB⟩
  case round =>
    clear BA BS KB
    obtain ⟨jn, vt, vc, hj, rfl, rfl, rfl, HT, HCU, BA, BS, KB⟩ := hrel
    by_cases hj3 : jn < m
    · have hj4 : decide ((jn : Int) < (ls.length : Int)) = true := decide_eq_true (by omega)
      have hj5 : decide ((jn : Int) < 14) = true := decide_eq_true (by omega)
      have hj6 : (jn : Int) < (ls.length : Int) := by omega
      have hj7 : (jn : Int) < 14 := by omega
      have hj8 : (0 : Int) ≤ (jn : Int) := by omega
      obtain ⟨ad, rfl, g0⟩ := cellU (Kd.C_below HR.out KB.out) jn (by omega)
      obtain ⟨x, hx⟩ : ∃ x, ls[jn]'(by omega) = x := ⟨_, rfl⟩
      have hx2 := HU.out _ (List.getElem_mem (by omega : jn < ls.length))
      rw [hx] at g0 hx2
      obtain ⟨hx0, hx1⟩ := hx2
      have HTT : Aside0 (((ls.take (jn + 1)).map fun v => v % (L + 1)) = ((ls.take jn).map fun v => v % (L + 1)) ++ [x % (L + 1)]) := ⟨by rw [List.take_add_one, List.getElem?_eq_getElem (by omega), hx]; simp⟩
      have HBB : Aside0 (((List.range (jn + 1)).map (bitB stops)) = ((List.range jn).map (bitB stops)) ++ [bitB stops jn]) := ⟨by rw [List.range_succ]; simp⟩
      clear hx
      go_wp2_with (first | ((with_reducible refine gate_builtin (b := .append) (xs := #[.tmp 42, .tmp 51]) rfl ?_); at_builtin; go_loud (refine Kd.R_append (Kd.int .i64) (w0 := w) w.heap.size rfl (.tmp 42) (.tmp 51) 48 3 (.int .i64 0) 8 rfl Try.underlying48 info3u rfl (by decide) (by omega) vt ((ls.take jn).map fun v => v % (L + 1)) (x % (L + 1)) [.int .i64 (x % (L + 1))] (fun _ => True) (fun _ => False) rfl (by simp [Act.eval]) rfl (fun _ h => h.elim) (fun _ _ => trivial) HT.out KB.out KB.out.size (by have := List.length_take_le jn ls; simp; omega) ?_; intro v7 w8 hR hb hg hat; have HT8 := Aside0.mk hR; have KB8 := Aside0.mk hb; have BA8 := Aside0.mk (blk_grown BA.out hg (Kd.R_ne HT.out BA.out (by decide))); have BS8 := Aside0.mk (blk_grown BS.out hg (Kd.R_ne HT.out BS.out (by decide))); have HCU8 := Aside0.mk (R_bool_grown HCU.out hg (apart_type HCU.out HT.out (by decide))); clear hR hb hg hat)) | ((with_reducible refine gate_builtin (b := .append) (xs := #[.tmp 53, .tmp 60]) rfl ?_); at_builtin; go_loud (refine Kd.R_append Kd.bool (w0 := w) w.heap.size rfl (.tmp 53) (.tmp 60) 62 4 (.bool false) 1 rfl Try.underlying62 info4u rfl (by decide) (by omega) vc ((List.range jn).map (bitB stops)) (bitB stops jn) [.bool (bitB stops jn)] (fun _ => True) (fun _ => False) rfl (by simp [Act.eval]) rfl (fun _ h => h.elim) (fun _ _ => trivial) HCU8.out KB8.out KB8.out.size (by simp; omega) ?_; intro v9 w9 hR hb hg hat; have HCU9 := Aside0.mk hR; have KB9 := Aside0.mk hb; have BA9 := Aside0.mk (blk_grown BA8.out hg (Kd.R_ne HCU8.out BA8.out (by decide))); have BS9 := Aside0.mk (blk_grown BS8.out hg (Kd.R_ne HCU8.out BS8.out (by decide))); have HT9 := Aside0.mk (R_int_grown HT8.out hg (apart_type HT8.out HCU8.out (by decide))); clear hR hb hg hat)))
      go_roundw
      case rel => exact ⟨jn + 1, _, _, by omega, by go_num, rfl, rfl, ⟨by rw [HTT.out]; exact HT9.out⟩, ⟨by rw [HBB.out]; exact HCU9.out⟩, BA9, BS9, KB9⟩
      case measure => simp [intOf]; omega
    · obtain rfl : jn = m := by omega
      have q0 : wr.cell? ⟨w.heap.size + 1, 0, none⟩ = some (.int .i64 L) := (blk_cell BS.out 0).trans rfl
      have q1 : wr.cell? ⟨w.heap.size + 1, 1, none⟩ = some (.int .i64 st) := (blk_cell BS.out 1).trans rfl
      have l0 := blk_lt BS.out
      by_cases hjl : jn < ls.length
      case' pos =>
        have hj4 : decide ((jn : Int) < (ls.length : Int)) = true := decide_eq_true (by omega)
        have hj5 : decide ((jn : Int) < 14) = false := decide_eq_false (by have := HM.out; omega)
        go_wp2_with fail
        clear hj4 hj5
      case' neg =>
        have hj4 : decide ((jn : Int) < (ls.length : Int)) = false := decide_eq_false (by omega)
        go_wp2_with fail
        clear hj4
      all_goals
        obtain ⟨ts, hts⟩ : ∃ ts, ((ls.take jn).map fun v => v % (L + 1)) = ts := ⟨_, rfl⟩
        obtain ⟨bs, hbs⟩ : ∃ bs, (List.range jn).map (bitB stops) = bs := ⟨_, rfl⟩
        rw [hts] at HT
        rw [hbs] at HCU
        have HTL : Aside0 (ts.length = jn) := ⟨by rw [← hts, List.length_map, List.length_take]; omega⟩
        have HBL : Aside0 (bs.length = jn) := ⟨by rw [← hbs]; simp⟩
        have HTS := Aside0.mk hts
        have HBS := Aside0.mk hbs
        obtain ⟨At, ct, rfl, _, hCt⟩ := Kd.R_reads HT.out
        obtain ⟨Ac, cc, rfl, _, hCc⟩ := Kd.R_reads HCU.out
        rw [HTL.out] at hCt HT ⊢
        rw [HBL.out] at hCc HCU ⊢
        have HCT := Aside0.mk hCt
        have HCC := Aside0.mk hCc
        clear hCt hCc hts hbs hjl hj3
        skip
        refine (refshake_n L st At ct ts Ac cc bs jn HTL.out HBL.out _ HCT.out HCC.out hL8 hs0 hs1 (by omega)).mono ?_
        rintro e w4 ⟨v4, rfl, hR4, hb4⟩
        obtain ⟨zs, hzs⟩ : ∃ zs, shakeZ L st (ts.zip bs) = zs := ⟨_, rfl⟩
        rw [hzs] at hR4
        have HZS := Aside0.mk hzs
        have HZL : Aside0 (zs.length = jn) := ⟨by rw [← hzs, shakeZ_len, List.length_zip, HTL.out, HBL.out]; omega⟩
        have hR4 := Kd.R_lower hR4 KB.out.size
        obtain ⟨Az, cz, rfl, _, _⟩ := Kd.R_reads hR4
        rw [HZL.out] at hR4 ⊢
        have HZ := Aside0.mk hR4
        replace KB := Aside0.mk (KB.out.trans (hb4.mono KB.out.size))
        replace BA := Aside0.mk (blk_below BA.out hb4)
        replace BS := Aside0.mk (blk_below BS.out hb4)
        replace HT := Aside0.mk (Kd.R_below HT.out hb4)
        clear hb4 hR4 hzs q0 q1 l0 HCU HCT HCC
        go_wp2_with fail
        go_loopw [19, 20] (fun lt i wr => ∃ (kn : Nat) (lf : Int) (v : Value), kn ≤ jn ∧ i = .int .i64 kn ∧ lt = .int .i64 lf ∧ Aside0 (lf = (loseS (bitB lost) (fun j => bitB lost ((j + 5) % 16)) zs kn).2) ∧ Aside0 (wr.heap[w.heap.size + 1]? = some (.cells #[.int .i64 L, .int .i64 st, v] 24 (0, 0))) ∧ Aside0 (Kd.R k43 43 wr w4.heap.size (fun _ => True) v (loseS (bitB lost) (fun j => bitB lost ((j + 5) % 16)) zs kn).1) ∧ Aside0 (Ch (fun b => b = w.heap.size + 1) w4 wr)) (fun _ i _ => jn - (intOf i).toNat)
        case atStart => exact ⟨0, 6, _, by omega, rfl, rfl, ⟨rfl⟩, BS, ⟨Kd.R_nil _ _ _ _ _⟩, ⟨Ch.refl _ _⟩⟩
        case round =>
          obtain ⟨kn, lf, v, hk, rfl, rfl, HLF, BX, HV, HC⟩ := hrel
          by_cases hk3 : kn < jn
          · have hk4 : decide ((kn : Int) < (jn : Int)) = true := decide_eq_true (by omega)
            have hk6 : (kn : Int) < (jn : Int) := by omega
            have hk7 : (kn : Int) < 14 := by omega
            have hk8 : (0 : Int) ≤ (kn : Int) := by omega
            have hZw := R43_ch HZ.out HC.out BS.out (by decide)
            obtain ⟨hZc, _⟩ := rowC43 hZw HZL.out
            obtain ⟨ad, rfl, g0, g1⟩ := cell43 (show Kd.C k43 wr Az zs.length zs by rw [HZL.out]; exact hZc) kn (by rw [HZL.out]; exact hk3)
            obtain ⟨⟨y0, y1⟩, hy⟩ : ∃ y, zs[kn]'(by rw [HZL.out]; exact hk3) = y := ⟨_, rfl⟩
            rw [hy] at g0 g1
            have g0 : wr.cell? (ad.add (kn * 2)) = some (.int .i64 y0) := g0
            have g1 : wr.cell? ⟨(ad.add (kn * 2)).block, (ad.add (kn * 2)).off + 1, none⟩ = some (.int .u8 y1) := g1
            have hgl := World.block_lt_of_cell? _ _ g0
            have HY : Aside0 (zs[kn]? = some ⟨y0, y1⟩) := ⟨by rw [← hy]; exact List.getElem?_eq_getElem _⟩
            clear hZw hZc hy
            have q2 : wr.cell? ⟨w.heap.size + 1, 2, none⟩ = some v := (blk_cell BX.out 2).trans rfl
            have f2 := blk_frozen BX.out 2
            have l0 := blk_lt BX.out
            obtain ⟨pb, hpb⟩ : ∃ pb, bitB lost kn = pb := ⟨_, rfl⟩
            have HPB := Aside0.mk hpb
            have hpb2 : ((lost / 2 ^ kn).tmod 2 == 1) = pb := hpb
            clear hpb
            obtain ⟨qb, hqb⟩ : ∃ qb, bitB lost ((kn + 5) % 16) = qb := ⟨_, rfl⟩
            have HQB := Aside0.mk hqb
            have hqb2 : ((lost / 2 ^ ((kn + 5) % 16)).tmod 2 == 1) = qb := hqb
            clear hqb
            obtain ⟨s0, hs0_⟩ : ∃ s0, (loseS (bitB lost) (fun j => bitB lost ((j + 5) % 16)) zs kn).1 = s0 := ⟨_, rfl⟩
            rw [hs0_] at HV
            have HSS := Aside0.mk hs0_
            clear hs0_
            have HSL : Aside0 (s0.length = kn) := ⟨by rw [← HSS.out]; exact lose_len _ _ _ kn (by rw [HZL.out]; omega)⟩
            cases pb
            case false =>
              cases qb
              case false =>
                have HT1 : Aside0 ((loseS (bitB lost) (fun j => bitB lost ((j + 5) % 16)) zs (kn + 1)).1 = s0 ++ [⟨y0, y1⟩] ∧ (loseS (bitB lost) (fun j => bitB lost ((j + 5) % 16)) zs (kn + 1)).2 = lf) := ⟨by
                    have e := loseS_step (bitB lost) (fun j => bitB lost ((j + 5) % 16)) zs kn _ HY.out s0 lf HSS.out HLF.out.symm
                    simp only [HPB.out, HQB.out, Bool.false_and, Bool.true_and, if_true, if_false, Bool.false_eq_true] at e
                    exact e⟩
                go_wp2_with (first | ((with_reducible refine gate_builtin (b := .append) (xs := #[.tmp 101, .tmp 103]) rfl ?_); at_builtin; go_loud (refine Kd.R_append k43 (w0 := wr) w4.heap.size rfl (.tmp 101) (.tmp 103) 22 43 (.agg #[(.int .i64 0), (.int .u8 0)]) 16 rfl Try.underlying22 info43u rfl (by decide) (by omega) v s0 (⟨y0, y1⟩ : S43) [.int .i64 y0, .int .u8 y1] (fun _ => True) (fun _ => False) rfl (by simp [Act.eval]) (k43_mkM _ _ _ ⟨y0, y1⟩) (fun _ h => h.elim) (fun _ _ => trivial) (Kd.R_alloc HV.out _) ((Below.refl _ wr).alloc HC.out.size _) (by have := HC.out.size; simp; omega) (by have := HSL.out; omega) ?_; intro v7 w8 hR hb hg hat; obtain ⟨A7, n7, c7, rfl⟩ : ∃ A n c, v7 = .slice A n c := (by obtain ⟨A, c, h⟩ := Kd.R_slice hR; exact ⟨A, _, c, h⟩); have HV8 := Aside0.mk hR; have HB8 := Aside0.mk (below_ch hb HC.out); have BX8 := Aside0.mk (blk_grown (blk_alloc BX.out (.cells #[.int .i64 y0, .int .u8 y1] 43)) hg (Kd.R_ne (Kd.R_alloc HV.out _) (blk_alloc BX.out (.cells #[.int .i64 y0, .int .u8 y1] 43)) (by decide))); clear hR hb hg hat; have y0_ : w8.cell? ⟨w.heap.size + 1, 2, none⟩ = some v := (blk_cell BX8.out 2).trans rfl; have y1_ := blk_frozen BX8.out 2)))
                go_roundw
                case rel =>
                  refine ⟨kn + 1, lf, _, by omega, by go_num, by first | rfl | go_num, ⟨HT1.out.2.symm⟩, ⟨blk_put BX8.out 2 _ rfl⟩, ⟨by rw [HT1.out.1]; exact Kd.R_set HV8.out BX8.out (by decide) 2 _⟩, ⟨HB8.out.setCell _ _ (fun _ => rfl)⟩⟩
                case measure => simp [intOf]; omega
              case true =>
                by_cases hlf : 0 < lf
                · have hlf2 : decide (0 < lf) = true := decide_eq_true hlf
                  have hlf3 : decide (lf > 0) = true := decide_eq_true hlf
                  have HT1 : Aside0 ((loseS (bitB lost) (fun j => bitB lost ((j + 5) % 16)) zs (kn + 1)).1 = s0 ++ [⟨y0, 3⟩] ∧ (loseS (bitB lost) (fun j => bitB lost ((j + 5) % 16)) zs (kn + 1)).2 = lf - 1) := ⟨by
                      have e := loseS_step (bitB lost) (fun j => bitB lost ((j + 5) % 16)) zs kn _ HY.out s0 lf HSS.out HLF.out.symm
                      simp only [HPB.out, HQB.out, hlf2, Bool.false_and, Bool.true_and, if_true, if_false, Bool.false_eq_true] at e
                      exact e⟩
                  clear hlf2
                  have hlf6 : lf ≤ 6 := by rw [HLF.out]; exact lose_le _ _ _ _
                  go_wp2_with (first | ((with_reducible refine gate_builtin (b := .append) (xs := #[.tmp 101, .tmp 103]) rfl ?_); at_builtin; go_loud (refine Kd.R_append k43 (w0 := wr) w4.heap.size rfl (.tmp 101) (.tmp 103) 22 43 (.agg #[(.int .i64 0), (.int .u8 0)]) 16 rfl Try.underlying22 info43u rfl (by decide) (by omega) v s0 (⟨y0, 3⟩ : S43) [.int .i64 y0, .int .u8 3] (fun _ => True) (fun _ => False) rfl (by simp [Act.eval]) (k43_mkM _ _ _ ⟨y0, 3⟩) (fun _ h => h.elim) (fun _ _ => trivial) (Kd.R_alloc HV.out _) ((Below.refl _ wr).alloc HC.out.size _) (by have := HC.out.size; simp; omega) (by have := HSL.out; omega) ?_; intro v7 w8 hR hb hg hat; obtain ⟨A7, n7, c7, rfl⟩ : ∃ A n c, v7 = .slice A n c := (by obtain ⟨A, c, h⟩ := Kd.R_slice hR; exact ⟨A, _, c, h⟩); have HV8 := Aside0.mk hR; have HB8 := Aside0.mk (below_ch hb HC.out); have BX8 := Aside0.mk (blk_grown (blk_alloc BX.out (.cells #[.int .i64 y0, .int .u8 3] 43)) hg (Kd.R_ne (Kd.R_alloc HV.out _) (blk_alloc BX.out (.cells #[.int .i64 y0, .int .u8 3] 43)) (by decide))); clear hR hb hg hat; have y0_ : w8.cell? ⟨w.heap.size + 1, 2, none⟩ = some v := (blk_cell BX8.out 2).trans rfl; have y1_ := blk_frozen BX8.out 2)))
                  go_roundw
                  case rel =>
                    refine ⟨kn + 1, lf - 1, _, by omega, by go_num, by first | rfl | go_num, ⟨HT1.out.2.symm⟩, ⟨blk_put BX8.out 2 _ rfl⟩, ⟨by rw [HT1.out.1]; exact Kd.R_set HV8.out BX8.out (by decide) 2 _⟩, ⟨HB8.out.setCell _ _ (fun _ => rfl)⟩⟩
                  case measure => simp [intOf]; omega
                · have hlf2 : decide (0 < lf) = false := decide_eq_false hlf
                  have hlf3 : decide (lf > 0) = false := decide_eq_false hlf
                  have HT1 : Aside0 ((loseS (bitB lost) (fun j => bitB lost ((j + 5) % 16)) zs (kn + 1)).1 = s0 ++ [⟨y0, y1⟩] ∧ (loseS (bitB lost) (fun j => bitB lost ((j + 5) % 16)) zs (kn + 1)).2 = lf) := ⟨by
                      have e := loseS_step (bitB lost) (fun j => bitB lost ((j + 5) % 16)) zs kn _ HY.out s0 lf HSS.out HLF.out.symm
                      simp only [HPB.out, HQB.out, hlf2, Bool.false_and, Bool.true_and, if_true, if_false, Bool.false_eq_true] at e
                      exact e⟩
                  clear hlf hlf2
                  go_wp2_with (first | ((with_reducible refine gate_builtin (b := .append) (xs := #[.tmp 101, .tmp 103]) rfl ?_); at_builtin; go_loud (refine Kd.R_append k43 (w0 := wr) w4.heap.size rfl (.tmp 101) (.tmp 103) 22 43 (.agg #[(.int .i64 0), (.int .u8 0)]) 16 rfl Try.underlying22 info43u rfl (by decide) (by omega) v s0 (⟨y0, y1⟩ : S43) [.int .i64 y0, .int .u8 y1] (fun _ => True) (fun _ => False) rfl (by simp [Act.eval]) (k43_mkM _ _ _ ⟨y0, y1⟩) (fun _ h => h.elim) (fun _ _ => trivial) (Kd.R_alloc HV.out _) ((Below.refl _ wr).alloc HC.out.size _) (by have := HC.out.size; simp; omega) (by have := HSL.out; omega) ?_; intro v7 w8 hR hb hg hat; obtain ⟨A7, n7, c7, rfl⟩ : ∃ A n c, v7 = .slice A n c := (by obtain ⟨A, c, h⟩ := Kd.R_slice hR; exact ⟨A, _, c, h⟩); have HV8 := Aside0.mk hR; have HB8 := Aside0.mk (below_ch hb HC.out); have BX8 := Aside0.mk (blk_grown (blk_alloc BX.out (.cells #[.int .i64 y0, .int .u8 y1] 43)) hg (Kd.R_ne (Kd.R_alloc HV.out _) (blk_alloc BX.out (.cells #[.int .i64 y0, .int .u8 y1] 43)) (by decide))); clear hR hb hg hat; have y0_ : w8.cell? ⟨w.heap.size + 1, 2, none⟩ = some v := (blk_cell BX8.out 2).trans rfl; have y1_ := blk_frozen BX8.out 2)))
                  go_roundw
                  case rel =>
                    refine ⟨kn + 1, lf, _, by omega, by go_num, by first | rfl | go_num, ⟨HT1.out.2.symm⟩, ⟨blk_put BX8.out 2 _ rfl⟩, ⟨by rw [HT1.out.1]; exact Kd.R_set HV8.out BX8.out (by decide) 2 _⟩, ⟨HB8.out.setCell _ _ (fun _ => rfl)⟩⟩
                  case measure => simp [intOf]; omega
            case true =>
              cases qb
              case false =>
                have HT1 : Aside0 ((loseS (bitB lost) (fun j => bitB lost ((j + 5) % 16)) zs (kn + 1)).1 = s0 ++ [⟨-1, y1⟩] ∧ (loseS (bitB lost) (fun j => bitB lost ((j + 5) % 16)) zs (kn + 1)).2 = lf) := ⟨by
                    have e := loseS_step (bitB lost) (fun j => bitB lost ((j + 5) % 16)) zs kn _ HY.out s0 lf HSS.out HLF.out.symm
                    simp only [HPB.out, HQB.out, Bool.false_and, Bool.true_and, if_true, if_false, Bool.false_eq_true] at e
                    exact e⟩
                go_wp2_with (first | ((with_reducible refine gate_builtin (b := .append) (xs := #[.tmp 101, .tmp 103]) rfl ?_); at_builtin; go_loud (refine Kd.R_append k43 (w0 := wr) w4.heap.size rfl (.tmp 101) (.tmp 103) 22 43 (.agg #[(.int .i64 0), (.int .u8 0)]) 16 rfl Try.underlying22 info43u rfl (by decide) (by omega) v s0 (⟨-1, y1⟩ : S43) [.int .i64 (-1), .int .u8 y1] (fun _ => True) (fun _ => False) rfl (by simp [Act.eval]) (k43_mkM _ _ _ ⟨-1, y1⟩) (fun _ h => h.elim) (fun _ _ => trivial) (Kd.R_alloc HV.out _) ((Below.refl _ wr).alloc HC.out.size _) (by have := HC.out.size; simp; omega) (by have := HSL.out; omega) ?_; intro v7 w8 hR hb hg hat; obtain ⟨A7, n7, c7, rfl⟩ : ∃ A n c, v7 = .slice A n c := (by obtain ⟨A, c, h⟩ := Kd.R_slice hR; exact ⟨A, _, c, h⟩); have HV8 := Aside0.mk hR; have HB8 := Aside0.mk (below_ch hb HC.out); have BX8 := Aside0.mk (blk_grown (blk_alloc BX.out (.cells #[.int .i64 (-1), .int .u8 y1] 43)) hg (Kd.R_ne (Kd.R_alloc HV.out _) (blk_alloc BX.out (.cells #[.int .i64 (-1), .int .u8 y1] 43)) (by decide))); clear hR hb hg hat; have y0_ : w8.cell? ⟨w.heap.size + 1, 2, none⟩ = some v := (blk_cell BX8.out 2).trans rfl; have y1_ := blk_frozen BX8.out 2)))
                go_roundw
                case rel =>
                  refine ⟨kn + 1, lf, _, by omega, by go_num, by first | rfl | go_num, ⟨HT1.out.2.symm⟩, ⟨blk_put BX8.out 2 _ rfl⟩, ⟨by rw [HT1.out.1]; exact Kd.R_set HV8.out BX8.out (by decide) 2 _⟩, ⟨HB8.out.setCell _ _ (fun _ => rfl)⟩⟩
                case measure => simp [intOf]; omega
              case true =>
                by_cases hlf : 0 < lf
                · have hlf2 : decide (0 < lf) = true := decide_eq_true hlf
                  have hlf3 : decide (lf > 0) = true := decide_eq_true hlf
                  have HT1 : Aside0 ((loseS (bitB lost) (fun j => bitB lost ((j + 5) % 16)) zs (kn + 1)).1 = s0 ++ [⟨-1, 3⟩] ∧ (loseS (bitB lost) (fun j => bitB lost ((j + 5) % 16)) zs (kn + 1)).2 = lf - 1) := ⟨by
                      have e := loseS_step (bitB lost) (fun j => bitB lost ((j + 5) % 16)) zs kn _ HY.out s0 lf HSS.out HLF.out.symm
                      simp only [HPB.out, HQB.out, hlf2, Bool.false_and, Bool.true_and, if_true, if_false, Bool.false_eq_true] at e
                      exact e⟩
                  clear hlf2
                  have hlf6 : lf ≤ 6 := by rw [HLF.out]; exact lose_le _ _ _ _
                  go_wp2_with (first | ((with_reducible refine gate_builtin (b := .append) (xs := #[.tmp 101, .tmp 103]) rfl ?_); at_builtin; go_loud (refine Kd.R_append k43 (w0 := wr) w4.heap.size rfl (.tmp 101) (.tmp 103) 22 43 (.agg #[(.int .i64 0), (.int .u8 0)]) 16 rfl Try.underlying22 info43u rfl (by decide) (by omega) v s0 (⟨-1, 3⟩ : S43) [.int .i64 (-1), .int .u8 3] (fun _ => True) (fun _ => False) rfl (by simp [Act.eval]) (k43_mkM _ _ _ ⟨-1, 3⟩) (fun _ h => h.elim) (fun _ _ => trivial) (Kd.R_alloc HV.out _) ((Below.refl _ wr).alloc HC.out.size _) (by have := HC.out.size; simp; omega) (by have := HSL.out; omega) ?_; intro v7 w8 hR hb hg hat; obtain ⟨A7, n7, c7, rfl⟩ : ∃ A n c, v7 = .slice A n c := (by obtain ⟨A, c, h⟩ := Kd.R_slice hR; exact ⟨A, _, c, h⟩); have HV8 := Aside0.mk hR; have HB8 := Aside0.mk (below_ch hb HC.out); have BX8 := Aside0.mk (blk_grown (blk_alloc BX.out (.cells #[.int .i64 (-1), .int .u8 3] 43)) hg (Kd.R_ne (Kd.R_alloc HV.out _) (blk_alloc BX.out (.cells #[.int .i64 (-1), .int .u8 3] 43)) (by decide))); clear hR hb hg hat; have y0_ : w8.cell? ⟨w.heap.size + 1, 2, none⟩ = some v := (blk_cell BX8.out 2).trans rfl; have y1_ := blk_frozen BX8.out 2)))
                  go_roundw
                  case rel =>
                    refine ⟨kn + 1, lf - 1, _, by omega, by go_num, by first | rfl | go_num, ⟨HT1.out.2.symm⟩, ⟨blk_put BX8.out 2 _ rfl⟩, ⟨by rw [HT1.out.1]; exact Kd.R_set HV8.out BX8.out (by decide) 2 _⟩, ⟨HB8.out.setCell _ _ (fun _ => rfl)⟩⟩
                  case measure => simp [intOf]; omega
                · have hlf2 : decide (0 < lf) = false := decide_eq_false hlf
                  have hlf3 : decide (lf > 0) = false := decide_eq_false hlf
                  have HT1 : Aside0 ((loseS (bitB lost) (fun j => bitB lost ((j + 5) % 16)) zs (kn + 1)).1 = s0 ++ [⟨-1, y1⟩] ∧ (loseS (bitB lost) (fun j => bitB lost ((j + 5) % 16)) zs (kn + 1)).2 = lf) := ⟨by
                      have e := loseS_step (bitB lost) (fun j => bitB lost ((j + 5) % 16)) zs kn _ HY.out s0 lf HSS.out HLF.out.symm
                      simp only [HPB.out, HQB.out, hlf2, Bool.false_and, Bool.true_and, if_true, if_false, Bool.false_eq_true] at e
                      exact e⟩
                  clear hlf hlf2
                  go_wp2_with (first | ((with_reducible refine gate_builtin (b := .append) (xs := #[.tmp 101, .tmp 103]) rfl ?_); at_builtin; go_loud (refine Kd.R_append k43 (w0 := wr) w4.heap.size rfl (.tmp 101) (.tmp 103) 22 43 (.agg #[(.int .i64 0), (.int .u8 0)]) 16 rfl Try.underlying22 info43u rfl (by decide) (by omega) v s0 (⟨-1, y1⟩ : S43) [.int .i64 (-1), .int .u8 y1] (fun _ => True) (fun _ => False) rfl (by simp [Act.eval]) (k43_mkM _ _ _ ⟨-1, y1⟩) (fun _ h => h.elim) (fun _ _ => trivial) (Kd.R_alloc HV.out _) ((Below.refl _ wr).alloc HC.out.size _) (by have := HC.out.size; simp; omega) (by have := HSL.out; omega) ?_; intro v7 w8 hR hb hg hat; obtain ⟨A7, n7, c7, rfl⟩ : ∃ A n c, v7 = .slice A n c := (by obtain ⟨A, c, h⟩ := Kd.R_slice hR; exact ⟨A, _, c, h⟩); have HV8 := Aside0.mk hR; have HB8 := Aside0.mk (below_ch hb HC.out); have BX8 := Aside0.mk (blk_grown (blk_alloc BX.out (.cells #[.int .i64 (-1), .int .u8 y1] 43)) hg (Kd.R_ne (Kd.R_alloc HV.out _) (blk_alloc BX.out (.cells #[.int .i64 (-1), .int .u8 y1] 43)) (by decide))); clear hR hb hg hat; have y0_ : w8.cell? ⟨w.heap.size + 1, 2, none⟩ = some v := (blk_cell BX8.out 2).trans rfl; have y1_ := blk_frozen BX8.out 2)))
                  go_roundw
                  case rel =>
                    refine ⟨kn + 1, lf, _, by omega, by go_num, by first | rfl | go_num, ⟨HT1.out.2.symm⟩, ⟨blk_put BX8.out 2 _ rfl⟩, ⟨by rw [HT1.out.1]; exact Kd.R_set HV8.out BX8.out (by decide) 2 _⟩, ⟨HB8.out.setCell _ _ (fun _ => rfl)⟩⟩
                  case measure => simp [intOf]; omega
          · obtain rfl : kn = jn := by omega
            have hk4 : decide ((kn : Int) < (kn : Int)) = false := decide_eq_false (by omega)
            have q0 : wr.cell? ⟨w.heap.size + 1, 0, none⟩ = some (.int .i64 L) := (blk_cell BX.out 0).trans rfl
            have q1 : wr.cell? ⟨w.heap.size + 1, 1, none⟩ = some (.int .i64 st) := (blk_cell BX.out 1).trans rfl
            have q2 : wr.cell? ⟨w.heap.size + 1, 2, none⟩ = some v := (blk_cell BX.out 2).trans rfl
            have BZ := Aside0.mk (HC.out.heap BA.out (by omega))
            have p0 := blk_frozen BZ.out 0
            have p1 := blk_frozen BZ.out 1
            have p2 := blk_frozen BZ.out 2
            have c0 : wr.cell? ⟨w.heap.size, 0, none⟩ = some (.int .i64 0) := (blk_cell BZ.out 0).trans rfl
            have c1 : wr.cell? ⟨w.heap.size, 1, none⟩ = some (.int .i64 0) := (blk_cell BZ.out 1).trans rfl
            have c2 : wr.cell? ⟨w.heap.size, 2, none⟩ = some (.slice none 0 0) := (blk_cell BZ.out 2).trans rfl
            have lz := blk_lt BZ.out
            obtain ⟨A7, c7, hv7⟩ := Kd.R_slice HV.out
            obtain ⟨ss, hss⟩ : ∃ ss, (loseS (bitB lost) (fun j => bitB lost ((j + 5) % 16)) zs kn).1 = ss := ⟨_, rfl⟩
            rw [hss] at HV hv7
            have HSS : Aside0 ((loseS (bitB lost) (fun j => bitB lost ((j + 5) % 16)) zs zs.length).1 = ss) := ⟨by rw [HZL.out]; exact hss⟩
            obtain ⟨n7, hn7⟩ : ∃ n, ss.length = n := ⟨_, rfl⟩
            rw [hn7] at hv7
            subst hv7
            clear hss hn7
            go_wp2_with fail
            have B1 := blk_put BZ.out 0 (.int .i64 L) rfl
            have B2 := blk_put B1 1 (.int .i64 st) rfl
            have B3 := blk_put B2 2 (.slice A7 n7 c7) rfl
            have HV1 := Kd.R_set (Kd.R_set (Kd.R_set (Kd.R_lower HV.out KB.out.size) BZ.out (by decide) 0 (.int .i64 L)) B1 (by decide) 1 (.int .i64 st)) B2 (by decide) 2 (.slice A7 n7 c7)
            have HT1 := Kd.R_set (Kd.R_set (Kd.R_set (R_int_ch HT.out HC.out BS.out (by decide)) BZ.out (by decide) 0 (.int .i64 L)) B1 (by decide) 1 (.int .i64 st)) B2 (by decide) 2 (.slice A7 n7 c7)
            have HZ1 := Kd.R_set (Kd.R_set (Kd.R_set (R43_ch HZ.out HC.out BS.out (by decide)) BZ.out (by decide) 0 (.int .i64 L)) B1 (by decide) 1 (.int .i64 st)) B2 (by decide) 2 (.slice A7 n7 c7)
            have HB1 := below_set (j := 2) (v := .slice A7 n7 c7) (below_set (j := 1) (v := .int .i64 st) (below_set (j := 0) (v := .int .i64 L) (KB.out.trans (HC.out.below KB.out.size (fun i hi => by show ¬ (i = w.heap.size + 1); omega))) (Nat.le_refl _)) (Nat.le_refl _)) (Nat.le_refl _)
            generalize ((wr.setCell ⟨w.heap.size, 0, none⟩ (.int .i64 L)).setCell ⟨w.heap.size, 1, none⟩ (.int .i64 st)).setCell ⟨w.heap.size, 2, none⟩ (.slice A7 n7 c7) = wz at B3 HV1 HT1 HZ1 HB1 ⊢
            have y0 : wz.cell? ⟨w.heap.size, 0, none⟩ = some (.int .i64 L) := (blk_cell B3 0).trans rfl
            have y1 : wz.cell? ⟨w.heap.size, 1, none⟩ = some (.int .i64 st) := (blk_cell B3 1).trans rfl
            have y2 : wz.cell? ⟨w.heap.size, 2, none⟩ = some (.slice A7 n7 c7) := (blk_cell B3 2).trans rfl
            refine bodyPost_ret (v := .tuple #[.agg #[.int .i64 L, .int .i64 st, .slice A7 n7 c7], .slice At kn ct, .slice Az kn cz]) (by simp [results, Try.results43, go_sem, y0, y1, y2]) rfl ?_
            exact ⟨L, st, _, _, _, zs, ss, ts, bs, rfl, hL1, hL8, hs0, hs1, HV1, HZ1, HT1, HZS.out, by rw [HTL.out, HBL.out], by rw [HTL.out]; omega, by rw [← HTS.out]; exact mod_range hL1 _, ⟨_, _, HSS.out⟩, HB1⟩
end Go.Proofs.Ytkglggggmlnleaa.Print
