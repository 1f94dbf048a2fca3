/- Plain lemmas on Moves. -/
import Derived.Test.YtehicgndccnopaaArenaP
import Derived.Test.YtehicgndccnopaaArenaD
namespace Go.Proofs.Ytehicgndccnopaa
open Go.RowKit
set_option linter.unusedVariables false
set_option linter.unusedSimpArgs false

theorem moveL_length {ws : List Int} {j i m : Nat} (hj : j + m ≤ ws.length) (hi : i + m ≤ ws.length) : (moveL ws j i m).length = ws.length := by simp [moveL]; omega
theorem moveL_get? {ws : List Int} {j i m : Nat} (hj : j + m ≤ ws.length) (hi : i + m ≤ ws.length) (q : Nat) : (moveL ws j i m)[q]? = if j ≤ q ∧ q < j + m then ws[i + (q - j)]? else ws[q]? := by
  unfold moveL
  have h1 : (ws.take j).length = j := by simp; omega
  have h2 : ((ws.drop i).take m).length = m := by simp; omega
  rw [List.getElem?_append, h1]
  by_cases a : q < j
  · rw [if_pos a, if_neg (by omega)]
    simp [List.getElem?_take, a]
  · rw [if_neg a, List.getElem?_append, h2]
    by_cases b : q - j < m
    · rw [if_pos b, if_pos (by omega)]
      simp [List.getElem?_take, b]
    · rw [if_neg b, if_neg (by omega), List.getElem?_drop]
      congr 1
      omega
theorem moveL_get {ws : List Int} {j i m : Nat} (hj : j + m ≤ ws.length) (hi : i + m ≤ ws.length) (q : Nat) : (moveL ws j i m).getD q 0 = if j ≤ q ∧ q < j + m then ws.getD (i + (q - j)) 0 else ws.getD q 0 := by
  simp only [List.getD]
  rw [moveL_get? hj hi]
  split <;> rfl
theorem moveL_apart {ws : List Int} {j i m : Nat} (hj : j + m ≤ ws.length) (hi : i + m ≤ ws.length) (h : j + m ≤ i ∨ i + m ≤ j) : ((moveL ws j i m).drop i).take m = (ws.drop i).take m := by
  apply List.ext_getElem?
  intro q
  simp only [List.getElem?_take, List.getElem?_drop]
  by_cases hq : q < m
  · rw [if_pos hq, if_pos hq, moveL_get? hj hi, if_neg (by omega)]
  · rw [if_neg hq, if_neg hq]
theorem woL_all (ws : List Int) : woL ws 0 (ws.length : Int) = ws := by
  have h : hasE ws.length 0 (ws.length : Int) = 0 := hasE_is (by omega)
  simp [woL, h]
theorem hasE_all (N : Nat) : hasE N 0 (N : Int) = 0 := hasE_is (by omega)
theorem mvW_length (ws : List Int) (t f n : Int) : (mvW ws t f n).length = ws.length := by
  unfold mvW
  split
  · rename_i h
    unfold mvE at h
    split at h
    · rename_i h2
      have a := hasE_yes h
      have b := hasE_yes h2
      exact moveL_length (by omega) (by omega)
    · contradiction
  · rfl
theorem mvE_yes {N : Nat} {t f n : Int} (h : mvE N t f n = 0) : 0 ≤ f ∧ 0 ≤ t ∧ 0 ≤ n ∧ f ≤ N ∧ t ≤ N ∧ n ≤ N - f ∧ n ≤ N - t := by
  unfold mvE at h
  split at h
  · rename_i h2
    have a := hasE_yes h
    have b := hasE_yes h2
    omega
  · contradiction
theorem mvE_no {N : Nat} {t f n : Int} (h : mvE N t f n ≠ 0) : mvE N t f n = 2 ∧ (f < 0 ∨ (0 ≤ f ∧ t < 0) ∨ (0 ≤ f ∧ 0 ≤ t ∧ n < 0) ∨ (0 ≤ f ∧ 0 ≤ t ∧ 0 ≤ n ∧ (N : Int) < f) ∨ (0 ≤ f ∧ 0 ≤ t ∧ 0 ≤ n ∧ f ≤ N ∧ (N : Int) < t) ∨ (0 ≤ f ∧ 0 ≤ t ∧ 0 ≤ n ∧ f ≤ N ∧ t ≤ N ∧ (N : Int) - f < n) ∨ (0 ≤ f ∧ 0 ≤ t ∧ 0 ≤ n ∧ f ≤ N ∧ t ≤ N ∧ n ≤ N - f ∧ (N : Int) - t < n)) := by
  unfold mvE at h ⊢
  by_cases h2 : hasE N f n = 0
  · rw [if_pos h2] at h ⊢
    have a := hasE_yes h2
    have b := hasE_fails h
    exact ⟨hasE_no h, by omega⟩
  · rw [if_neg h2] at h ⊢
    have b := hasE_fails h2
    exact ⟨hasE_no h2, by omega⟩
end Go.Proofs.Ytehicgndccnopaa
