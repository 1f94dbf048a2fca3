/- The law ArenaMoves: every input. -/
import Derived.Test.YtehicgndccnopaaArenaM
namespace Go.Proofs.Ytehicgndccnopaa
open Go.RowKit
set_option linter.unusedVariables false
set_option linter.unusedSimpArgs false

set_option maxRecDepth 100000 in
set_option maxHeartbeats 1000000 in
theorem arenaMoves_walk (w : World) (A : Option Addr) (N cap : Nat) (zs : List Int) (h : RowIs .u64 w A N cap zs) (t : Int) (t0 : -9223372036854775808 ≤ t) (t1 : t ≤ 9223372036854775807) (f : Int) (f0 : -9223372036854775808 ≤ f) (f1 : f ≤ 9223372036854775807) (n : Int) (n0 : -9223372036854775808 ≤ n) (n1 : n ≤ 9223372036854775807) :
    Calls Try.prog 6 #[.slice A N cap, .int .i64 t, .int .i64 f, .int .i64 n] w fun e w' => e = .returned (.bool true) ∧ Below w.heap.size w w' := by
  by_cases hg : 16 ≤ N ∧ N ≤ 400 ∧ N % 2 = 0
  · by_cases hE : mvE N t f n = 0
    · obtain ⟨a1, a2, a3, a4, a5, a6, a7⟩ := mvE_yes hE
      obtain ⟨i, rfl⟩ := Int.eq_ofNat_of_zero_le a1
      obtain ⟨j, rfl⟩ := Int.eq_ofNat_of_zero_le a2
      obtain ⟨m, rfl⟩ := Int.eq_ofNat_of_zero_le a3
      exact arenaMoves_ok w A N cap zs h j i m (by omega) (by omega) hg.1 hg.2.1 hg.2.2
    · exact arenaMoves_no w A N cap zs h t f n t0 t1 f0 f1 n0 n1 hE hg.1 hg.2.1 hg.2.2
  · have hm := h.2.2.1
    have hlc := h.2.1
    unfold maxLen at hm
    clear h t0 t1 f0 f1 n0 n1
    rcases (by omega : N < 16 ∨ 400 < N ∨ (16 ≤ N ∧ N ≤ 400 ∧ N % 2 = 1)) with h1 | h1 | ⟨h1, h2, h3⟩
    · go_enter Try.func6, Try.ntmps6
      go_wp2_with fail
      refine (alive02 _).mono ?_
      rintro e w7 ⟨rfl, hb7⟩
      go_wp2_with fail
      go_ret
      exact ⟨rfl, hb7⟩
    · go_enter Try.func6, Try.ntmps6
      go_wp2_with fail
      refine (alive02 _).mono ?_
      rintro e w7 ⟨rfl, hb7⟩
      go_wp2_with fail
      go_ret
      exact ⟨rfl, hb7⟩
    · have t1 : (((N : Int) % 2) != 0) = true := by simp; omega
      clear h3 hg
      go_enter Try.func6, Try.ntmps6
      go_wp2_with fail
      refine (alive02 _).mono ?_
      rintro e w7 ⟨rfl, hb7⟩
      go_wp2_with fail
      go_ret
      exact ⟨rfl, hb7⟩
end Go.Proofs.Ytehicgndccnopaa
