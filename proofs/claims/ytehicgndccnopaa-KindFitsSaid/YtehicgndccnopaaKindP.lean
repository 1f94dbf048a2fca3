/- Plain lemmas on the references of types: how many, rising. -/
import Derived.Test.YtehicgndccnopaaRefD
namespace Go.Proofs.Ytehicgndccnopaa
open Go.RowKit
set_option linter.unusedVariables false
set_option linter.unusedSimpArgs false

/-- How many of the first c bits are set. -/
def cnt (mk c : Nat) : Nat := ((List.range c).filter (bitV mk)).length
theorem cnt_yes {mk c : Nat} (h : bitV mk c = true) : cnt mk (c + 1) = cnt mk c + 1 := by simp [cnt, List.range_succ, List.filter_append, h]
theorem cnt_no {mk c : Nat} (h : bitV mk c = false) : cnt mk (c + 1) = cnt mk c := by simp [cnt, List.range_succ, List.filter_append, h]
theorem cnt_le (mk c : Nat) : cnt mk c ≤ c := Nat.le_trans (List.length_filter_le _ _) (by simp)
theorem cnt_64 {mk W : Nat} (hW : W ≤ 64) (h : ∀ j, W ≤ j → j < 64 → bitV mk j = false) : cnt mk 64 = cnt mk W := by
  obtain ⟨d, hd⟩ := Nat.exists_eq_add_of_le hW
  have e : (List.range (W + d)).filter (bitV mk) = (List.range W).filter (bitV mk) := by
    rw [List.range_add, List.filter_append]
    have : ((List.range d).map (W + ·)).filter (bitV mk) = [] := by
      rw [List.filter_eq_nil_iff]
      intro x hx
      obtain ⟨j, hj, rfl⟩ := List.mem_map.1 hx
      have := List.mem_range.1 hj
      rw [h (W + j) (by omega) (by omega)]
      simp
    rw [this, List.append_nil]
  unfold cnt
  rw [hd, e]

theorem okT_bits {k : Int} {W mk : Nat} (h : okT k (W : Int) mk = true) : ∀ j, W ≤ j → j < 64 → bitV mk j = false := by
  intro j h1 h2
  by_cases hW : 64 ≤ W
  · omega
  · apply bits_of_div_zero _ h1
    unfold okT at h
    rw [Bool.and_eq_true] at h
    rcases (Bool.or_eq_true _ _ ▸ h.2 : _ ∨ _) with h3 | h3
    · simp at h3; omega
    · rw [Int.toNat_natCast, beq_iff_eq] at h3
      have e : (mk : Int) / 2 ^ W = ((mk / 2 ^ W : Nat) : Int) := by simp
      rw [e] at h3
      omega

theorem refsL_len (k wd : Int) (mk c : Nat) : (refsL k wd mk c).length = ((List.range c).filter fun i : Nat => refV k wd mk (i : Int)).length := by simp [refsL]
theorem len_fixed (wd : Int) (mk c : Nat) : (refsL 1 wd mk c).length = cnt mk c := by
  rw [refsL_len, cnt]
  congr 1
theorem len_refs (wd : Int) (mk c : Nat) : (refsL 2 wd mk c).length = c := by
  rw [refsL_len, List.filter_eq_self.2]
  · simp
  · intro a _; simp [refV]
theorem len_raw (wd : Int) (c : Nat) : (refsL 4 wd 0 c).length = 0 := by
  rw [refsL_len, List.filter_eq_nil_iff.2]
  · rfl
  · intro a _; simp [refV, bitV]
theorem mod_nat {i W : Nat} : (((i : Nat) : Int) % ((W : Nat) : Int)).toNat = i % W := by omega
theorem len_structs (W mk : Nat) : ∀ m : Nat, (refsL 3 (W : Int) mk (m * W)).length = m * cnt mk W
  | 0 => by simp [refsL]
  | m + 1 => by
    have ih := len_structs W mk m
    rw [refsL_len] at ih ⊢
    rw [Nat.succ_mul, List.range_add, List.filter_append, List.length_append, ih, Nat.succ_mul]
    congr 1
    rw [List.filter_map, List.length_map, cnt]
    congr 1
    apply List.filter_congr
    intro j hj
    have hj' := List.mem_range.1 hj
    simp only [refV, Function.comp]
    rw [if_neg (by omega), if_pos trivial]
    congr 1
    rw [mod_nat, Nat.mul_comm, Nat.mul_add_mod, Nat.mod_eq_of_lt hj']

theorem refsL_mem {k wd : Int} {mk c : Nat} {x : Int} (h : x ∈ refsL k wd mk c) : 0 ≤ x ∧ x < (c : Int) ∧ refV k wd mk x = true := by
  obtain ⟨i, hi, rfl⟩ := List.mem_map.1 h
  obtain ⟨h1, h2⟩ := List.mem_filter.1 hi
  have := List.mem_range.1 h1
  exact ⟨by omega, by omega, h2⟩
theorem refsL_sorted (k wd : Int) (mk c : Nat) : (refsL k wd mk c).Pairwise (· < ·) := by
  unfold refsL
  rw [List.pairwise_map]
  exact ((List.pairwise_lt_range (n := c)).filter _).imp (fun {a b} (h : a < b) => by omega)
theorem refsL_lt {k wd : Int} {mk c i : Nat} (h : i + 1 < (refsL k wd mk c).length) : (refsL k wd mk c).getD i 0 < (refsL k wd mk c).getD (i + 1) 0 := by
  have := List.pairwise_iff_getElem.1 (refsL_sorted k wd mk c) i (i + 1) (by omega) h (by omega)
  simpa [List.getD, h, show i < (refsL k wd mk c).length by omega] using this
theorem getD_mem {l : List Int} {i : Nat} (h : i < l.length) : l.getD i 0 ∈ l := by
  simp [List.getD, h]
end Go.Proofs.Ytehicgndccnopaa
