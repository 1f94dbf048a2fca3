/- The law ArenaKeeps: every input. -/
import Derived.Test.YtehicgndccnopaaArenaK
namespace Go.Proofs.Ytehicgndccnopaa
open Go.RowKit
set_option linter.unusedVariables false
set_option linter.unusedSimpArgs false

set_option maxRecDepth 100000 in
set_option maxHeartbeats 1000000 in
theorem arenaKeeps_walk (w : World) (A : Option Addr) (N cap : Nat) (zs : List Int) (h : RowIs .u64 w A N cap zs) (i : Int) (i0 : -9223372036854775808 ≤ i) (i1 : i ≤ 9223372036854775807) (n : Int) (n0 : -9223372036854775808 ≤ n) (n1 : n ≤ 9223372036854775807) (v : Int) (v0 : 0 ≤ v) (v1 : v < 18446744073709551616) (a : Int) (a0 : -9223372036854775808 ≤ a) (a1 : a ≤ 9223372036854775807) (x : Int) (x0 : 0 ≤ x) (x1 : x < 18446744073709551616) :
    Calls Try.prog 7 #[.slice A N cap, .int .i64 i, .int .i64 n, .int .u64 v, .int .i64 a, .int .u64 x] w fun e w' => e = .returned (.bool true) ∧ Below w.heap.size w w' := by
  by_cases hg : 16 ≤ N ∧ N ≤ 400 ∧ N % 2 = 0
  · exact arenaKeeps_ok w A N cap zs h i n v a x i0 i1 n0 n1 a0 a1 hg.1 hg.2.1 hg.2.2
  · have hm := h.2.2.1
    have hlc := h.2.1
    unfold maxLen at hm
    clear h v0 v1 x0 x1 i0 i1 n0 n1 a0 a1
    rcases (by omega : N < 16 ∨ 400 < N ∨ (16 ≤ N ∧ N ≤ 400 ∧ N % 2 = 1)) with h1 | h1 | ⟨h1, h2, h3⟩
    · go_enter Try.func7, Try.ntmps7
      go_wp2_with fail
      refine (alive02 _).mono ?_
      rintro e w7 ⟨rfl, hb7⟩
      go_wp2_with fail
      go_ret
      exact ⟨rfl, hb7⟩
    · go_enter Try.func7, Try.ntmps7
      go_wp2_with fail
      refine (alive02 _).mono ?_
      rintro e w7 ⟨rfl, hb7⟩
      go_wp2_with fail
      go_ret
      exact ⟨rfl, hb7⟩
    · have t1 : (((N : Int) % 2) != 0) = true := by simp; omega
      clear h3 hg
      go_enter Try.func7, Try.ntmps7
      go_wp2_with fail
      refine (alive02 _).mono ?_
      rintro e w7 ⟨rfl, hb7⟩
      go_wp2_with fail
      go_ret
      exact ⟨rfl, hb7⟩
end Go.Proofs.Ytehicgndccnopaa
