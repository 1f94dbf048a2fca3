/- Plain lemmas on the words of arenas. -/
import Derived.Test.YtehicgndccnopaaArenaB
namespace Go.Proofs.Ytehicgndccnopaa
open Go.RowKit
set_option linter.unusedVariables false
set_option linter.unusedSimpArgs false

theorem stW_length (ws : List Int) (i v : Int) : (stW ws i v).length = ws.length := by unfold stW; split <;> simp
theorem fiW_length (ws : List Int) (i n v : Int) : (fiW ws i n v).length = ws.length := by unfold fiW; split <;> simp [fillN_length]
theorem stW_get {ws : List Int} {i v : Int} {c : Nat} (hc : c < ws.length) : (stW ws i v).getD c 0 = if hasE ws.length i 1 = 0 ∧ (c : Int) = i then v else ws.getD c 0 := by
  unfold stW
  by_cases h : hasE ws.length i 1 = 0
  · have := hasE_yes h
    rw [if_pos h]
    by_cases h2 : (c : Int) = i
    · rw [if_pos ⟨h, h2⟩]
      subst h2
      simp [List.getD, List.getElem?_set, hc]
    · rw [if_neg (fun x => h2 x.2)]
      have : i.toNat ≠ c := by omega
      simp [List.getD, List.getElem?_set, this]
  · rw [if_neg h, if_neg (fun x => h x.1)]
theorem fiW_get {ws : List Int} {i n v : Int} {c : Nat} (hc : c < ws.length) : (fiW ws i n v).getD c 0 = if hasE ws.length i n = 0 ∧ i ≤ (c : Int) ∧ (c : Int) - i < n then v else ws.getD c 0 := by
  unfold fiW
  by_cases h : hasE ws.length i n = 0
  · have := hasE_yes h
    rw [if_pos h]
    simp only [List.getD]
    rw [fillN_get]
    by_cases h2 : i ≤ (c : Int) ∧ (c : Int) - i < n
    · rw [if_pos (by omega), if_pos ⟨h, h2⟩]
      rfl
    · rw [if_neg (by omega), if_neg (fun x => h2 x.2)]
  · rw [if_neg h, if_neg (fun x => h x.1)]

/-- While words are laid into a new arena. -/
def layW (ws : List Int) (c : Nat) : List Int := ws.take c ++ List.replicate (ws.length - c) 0
theorem layW_length (ws : List Int) (c : Nat) : (layW ws c).length = ws.length := by simp [layW]; omega
theorem layW_zero (ws : List Int) : layW ws 0 = List.replicate ws.length 0 := by simp [layW]
theorem layW_all (ws : List Int) : layW ws ws.length = ws := by simp [layW]
theorem layW_has {ws : List Int} {c : Nat} (h : c < ws.length) : hasE (layW ws c).length (c : Int) 1 = 0 := by
  rw [layW_length]
  exact hasE_is (by omega)
theorem layW_succ {ws : List Int} {c : Nat} (h : c < ws.length) : stW (layW ws c) (c : Int) (ws.getD c 0) = layW ws (c + 1) := by
  unfold stW
  rw [if_pos (layW_has h), Int.toNat_natCast]
  apply List.ext_getElem?
  intro j
  rw [List.getElem?_set, layW_length]
  unfold layW
  simp only [List.getElem?_append, List.length_take, List.getElem?_take, List.getElem?_replicate]
  by_cases h1 : c = j
  · subst h1
    simp [h, List.getD]
    intro h3
    omega
  · rw [if_neg h1]
    by_cases h2 : j < c
    · simp [h2, show j < c + 1 by omega, show j < ws.length by omega]
      rw [if_pos (by omega), if_pos (by omega)]
    · by_cases h3 : j < ws.length
      · have e1 : ¬ j < min c ws.length := by omega
        have e2 : ¬ j < min (c + 1) ws.length := by omega
        simp only [e1, e2, if_false]
        rw [if_pos (by omega), if_pos (by omega)]
      · have e1 : ¬ j < min c ws.length := by omega
        have e2 : ¬ j < min (c + 1) ws.length := by omega
        simp only [e1, e2, if_false]
        rw [if_neg (by omega), if_neg (by omega)]
theorem layW_c {ws : List Int} {c : Nat} (h : c < ws.length) (q : Nat) : stC (layW ws c) (c : Int) q = q + 1 := by
  unfold stC
  rw [if_pos (layW_has h)]
theorem hasE_fails {N : Nat} {i n : Int} (h : hasE N i n ≠ 0) : i < 0 ∨ (0 ≤ i ∧ n < 0) ∨ (0 ≤ i ∧ 0 ≤ n ∧ (N : Int) < i) ∨ (0 ≤ i ∧ 0 ≤ n ∧ i ≤ N ∧ (N : Int) - i < n) := by
  by_cases h2 : 0 ≤ i ∧ 0 ≤ n ∧ i ≤ N ∧ n ≤ N - i
  · exact absurd (hasE_is h2) h
  · omega
end Go.Proofs.Ytehicgndccnopaa
