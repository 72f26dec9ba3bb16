/- What all laws of the chapter need: the fault, the staircase handed on, awake. -/
import Derived.Test.YtkglggggmlnleaaOp
import Derived.Test.YtkglggggmlnleaaXT1
import Derived.Test.YtkglggggmlnleaaXR2
namespace Go.Proofs.Ytkglggggmlnleaa.Print
open Go.RowKit Go.Proofs.YtkglggggmlnleaaW.PrintWords Go.Proofs.YtkglggggmlnleaaW.PrintLast Go.Proofs.YtkglggggmlnleaaW.PrintMore
set_option linter.unusedVariables false
set_option linter.unusedSimpArgs false

theorem leO_le {α : Type} {f : Nat → Option α} (h : ∀ k, LeO (f k) (f (k + 1))) {k k' : Nat} (hk : k ≤ k') {r : α} (e : f k = some r) : f k' = some r := by
  induction hk with
  | refl => exact e
  | step _ ih => exact h _ _ ih
/-- A run, for the program. -/
def up (x : S43) : S67 := ⟨x.f0, x.f1⟩
theorem rd43 {l : List S43} {j : Nat} (hj : j < l.length) : rd_T43 l j = l[j] := by unfold rd_T43; simp [List.getD_eq_getElem?_getD, hj]
theorem w1 {j : Nat} (hj : j < 9000000000000) : wrap64 ((j : Int) + 1) = ((j + 1 : Nat) : Int) := by unfold wrap64; omega

theorem stairs_l0 (a b : Int) (l : List S43) (hl : l.length < 8796093022208) : ∀ (d j : Nat), j + d = l.length → tensilelaw04_Stairs.l0 (d + 1) j a b l a b ((l.take j).map up) = some (a, b, l.map up)
  | 0, j, h => by
    unfold tensilelaw04_Stairs.l0
    rw [if_neg (by omega), List.take_of_length_le (by omega)]
  | d + 1, j, h => by
    have hj : j < l.length := by omega
    unfold tensilelaw04_Stairs.l0
    rw [if_pos (by omega), if_pos (by omega), if_pos (by simp; omega), w1 (by omega), rd43 hj]
    have := stairs_l0 a b l hl d (j + 1) (by omega)
    rw [List.take_add_one, List.getElem?_eq_getElem hj, List.map_append] at this
    exact this
theorem stairs_f (a b : Int) (l : List S43) (hl : l.length < 8796093022208) (k : Nat) (hk : l.length + 1 ≤ k) : tensilelaw04_Stairs.f k a b l = some (a, b, l.map up) :=
  leO_le (fun k => tensilelaw04_Stairs.mono _ _ _ k) hk (by have := stairs_l0 a b l hl l.length 0 (by omega); unfold tensilelaw04_Stairs.f; simpa using this)

theorem in_f (n lo hi : Int) : tensileref04_In.f n lo hi = some (decide (lo ≤ n) && decide (n ≤ hi)) := by
  unfold tensileref04_In.f
  by_cases h : lo ≤ n <;> simp [h]
theorem fault_l1 (a b : Int) (l : List S43) (ha : 1 ≤ a ∧ a ≤ 8) (hl : l.length < 8796093022208) : ∀ (d j : Nat), j + d = l.length → tensileref04_Fault.l1 (d + 1) j a b l = some (if ((l.drop j).map up).all (runB a) then 0 else 1)
  | 0, j, h => by
    unfold tensileref04_Fault.l1
    rw [if_neg (by omega), List.drop_of_length_le (by omega)]
    rfl
  | d + 1, j, h => by
    have hj : j < l.length := by omega
    have e : wrap64 (a - 1) = a - 1 := by unfold wrap64; omega
    unfold tensileref04_Fault.l1
    rw [if_pos (by omega), if_pos (by omega), w1 (by omega), rd43 hj, in_f, e]
    have ih := fault_l1 a b l ha hl d (j + 1) (by omega)
    have hd : ((l.drop j).map up).all (runB a) = (runB a (up l[j]) && ((l.drop (j + 1)).map up).all (runB a)) := by
      rw [List.drop_eq_getElem_cons hj]; rfl
    have hr : runB a (up l[j]) = (decide (-1 ≤ l[j].f0) && decide (l[j].f0 ≤ a - 1) && decide (l[j].f1 ≤ 3)) := rfl
    rw [hd, hr, Option.bind_some]
    by_cases h12 : (decide (-1 ≤ l[j].f0) && decide (l[j].f0 ≤ a - 1)) = true
    · rw [if_pos h12]
      by_cases h3 : l[j].f1 > 3
      · have h3' : decide (l[j].f1 ≤ 3) = false := by simp; omega
        rw [if_pos h3, h3']
        simp
      · have h3' : decide (l[j].f1 ≤ 3) = true := by simp; omega
        rw [if_neg h3, ih, h12, h3']
        simp
    · have h12' := Bool.eq_false_iff.2 h12
      rw [if_neg h12, h12']
      simp
theorem fault_j1 (k : Nat) (c : Bool) (a b : Int) (l : List S43) : tensileref04_Fault.j1 (k + 1) c a b l = if c = true then some 3 else ((tensileref04_In.f a 1 8).bind fun t235 => (if t235 = true then ((tensileref04_In.f b 0 (wrap64 (a - 1))).bind fun t236 => (tensileref04_Fault.j2 k (!t236) a b l)) else (tensileref04_Fault.j2 k true a b l))) := by
  rw [tensileref04_Fault.j1]
theorem fault_j2 (k : Nat) (c : Bool) (a b : Int) (l : List S43) : tensileref04_Fault.j2 (k + 1) c a b l = if c = true then some 1 else tensileref04_Fault.l1 k 0 a b l := by
  rw [tensileref04_Fault.j2]
theorem fault_l0 (a b : Int) (l : List S43) (hl : l.length < 8796093022208) (wa : (Lit.int .i64 a).wf = true) : ∀ (d j : Nat), j + d = l.length →
    tensileref04_Fault.l0 (d + (l.length + 4)) ((((l.take j).map up).filter fun x => decide (x.f1 = 3)).length : Nat) j a b l = some (checkI a b (l.map up))
  | 0, j, h => by
    have hj : (l.take j) = l := List.take_of_length_le (by omega)
    rw [hj, show 0 + (l.length + 4) = (l.length + 1) + 1 + 1 + 1 by omega]
    unfold tensileref04_Fault.l0 checkI
    rw [if_neg (by omega), List.length_map]
    have hj1 : ∀ c, tensileref04_Fault.j1 ((l.length + 1) + 1 + 1) c a b l = some (if c = true then 3 else if ¬ (1 ≤ a ∧ a ≤ 8 ∧ 0 ≤ b ∧ b < a) ∨ (l.map up).all (runB a) = false then 1 else 0) := by
      intro c
      rw [fault_j1]
      by_cases hc : c = true
      · simp [hc]
      · rw [if_neg hc, if_neg hc, in_f]
        simp only [Option.bind_some]
        have hj2 : ∀ c, (c = false → 1 ≤ a ∧ a ≤ 8) → tensileref04_Fault.j2 (l.length + 1 + 1) c a b l = some (if c = true then 1 else if (l.map up).all (runB a) = true then 0 else 1) := by
          intro c hca
          rw [fault_j2]
          by_cases hc : c = true
          · simp [hc]
          · rw [if_neg hc, if_neg hc]
            simpa using fault_l1 a b l (hca (by simpa using hc)) hl l.length 0 (by omega)
        by_cases h1 : 1 ≤ a ∧ a ≤ 8
        · have e : wrap64 (a - 1) = a - 1 := by unfold wrap64; omega
          have hd : (decide (1 ≤ a) && decide (a ≤ 8)) = true := by simp [h1.1, h1.2]
          rw [if_pos hd, in_f, e]
          simp only [Option.bind_some]
          rw [hj2 _ (fun _ => h1)]
          by_cases h2 : 0 ≤ b ∧ b < a
          · have hd2 : (!(decide (0 ≤ b) && decide (b ≤ a - 1))) = false := by simp; omega
            rw [hd2]
            by_cases h3 : (l.map up).all (runB a) = true
            · simp [h3, h1, h2]
            · simp [h3, h1, h2]
          · have hd2 : (!(decide (0 ≤ b) && decide (b ≤ a - 1))) = true := by simp; omega
            rw [hd2, if_pos rfl, if_pos (.inl (by omega))]
        · have hd : (decide (1 ≤ a) && decide (a ≤ 8)) = false := by simp; omega
          rw [hd]
          simp only [Bool.false_eq_true, if_false]
          rw [hj2 _ (fun h => by cases h), if_pos rfl, if_pos (.inl (by omega))]
    by_cases h14 : (l.length : Int) > 14
    · rw [if_pos h14, hj1, if_pos rfl, if_pos (.inl (by omega))]
    · rw [if_neg h14, hj1]
      by_cases h6 : ((((l.map up).filter fun x => decide (x.f1 = 3)).length : Nat) : Int) > 6
      · rw [if_pos (by simpa using h6), if_pos (show 14 < l.length ∨ 6 < ((l.map up).filter fun x => decide (x.f1 = 3)).length from .inr (by omega))]
      · rw [if_neg (by simpa using h6), if_neg (show ¬ (14 < l.length ∨ 6 < ((l.map up).filter fun x => decide (x.f1 = 3)).length) by omega)]
  | d + 1, j, h => by
    have hj : j < l.length := by omega
    rw [show d + 1 + (l.length + 4) = (d + (l.length + 4)) + 1 by omega]
    unfold tensileref04_Fault.l0
    have ih := fault_l0 a b l hl wa d (j + 1) (by omega)
    have htk : (((l.take (j + 1)).map up).filter fun x => decide (x.f1 = 3)) = (((l.take j).map up).filter fun x => decide (x.f1 = 3)) ++ if l[j].f1 = 3 then [up l[j]] else [] := by
      rw [List.take_add_one, List.getElem?_eq_getElem hj, List.map_append, List.filter_append]
      by_cases h3 : l[j].f1 = 3 <;> simp [h3, up]
    have hle : (((l.take j).map up).filter fun x => decide (x.f1 = 3)).length ≤ j := by
      have := List.length_filter_le (fun x : S67 => decide (x.f1 = 3)) ((l.take j).map up)
      simp at this ⊢; omega
    rw [if_pos (by omega), if_pos (by omega), rd43 hj, w1 (j := j) (by omega)]
    by_cases h3 : l[j].f1 = 3
    · rw [if_pos h3, w1 (by omega)]
      rw [htk, if_pos h3] at ih
      simpa using ih
    · rw [if_neg h3]
      rw [htk, if_neg h3] at ih
      simpa using ih
theorem fault_f (a b : Int) (l : List S43) (hl : l.length < 8796093022208) (wa : (Lit.int .i64 a).wf = true) (k : Nat) (hk : l.length + (l.length + 4) ≤ k) : tensileref04_Fault.f k a b l = some (checkI a b (l.map up)) :=
  leO_le (f := fun k => tensileref04_Fault.f k a b l) (fun k => tensileref04_Fault.mono _ _ _ k) hk (by have := fault_l0 a b l hl wa l.length 0 (by omega); unfold tensileref04_Fault.f; simpa using this)
theorem ready_f (a b : Int) (l : List S43) (hl : l.length < 8796093022208) (wa : (Lit.int .i64 a).wf = true) (k : Nat) (hk : l.length + (l.length + 4) ≤ k) :
    tensilelaw04_ready.f k a b l = some (decide (checkI a b (l.map up) = 0)) := by
  unfold tensilelaw04_ready.f tensilelaw04_Thin.f
  rw [fault_f a b l hl wa k hk]
  simp only [Option.bind_some]
  by_cases h : l.length ≤ 20
  · rw [if_pos (by simp; omega)]
    congr 1
  · rw [if_neg (by simp; omega)]
    have : checkI a b (l.map up) = 3 := by unfold checkI; rw [if_pos (.inl (by simp; omega))]
    rw [this]; rfl
theorem awake_f : tensilelaw04_awake.f = some true := rfl
end Go.Proofs.Ytkglggggmlnleaa.Print
