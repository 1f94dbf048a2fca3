/- kind.Check: what it answers, by a plain function. -/
import Derived.Test.YtmjkohjijoddaaaDoorBase
namespace Go.Proofs.YtmjkohjijoddaaaDoor
open Go.RowKit
set_option linter.unusedVariables false
set_option linter.unusedSimpArgs false

/-- Which types may be. -/
def okT (k wd : Int) (mk : Nat) : Bool :=
  ((k == 1 && decide (0 ≤ wd) && decide (wd ≤ 64)) || (k == 3 && decide (1 ≤ wd) && decide (wd ≤ 16)) || ((k == 2 || k == 4) && wd == 0)) && (decide (64 ≤ wd) || (mk : Int) / 2 ^ wd.toNat == 0)
def chk (k wd : Int) (mk : Nat) : Int := if okT k wd mk then 0 else 2

set_option maxHeartbeats 1000000 in
theorem check_any (k wd : Int) (mk : Nat) (w : World) (hk : 0 ≤ k ∧ k < 256) (hw : -9223372036854775808 ≤ wd ∧ wd ≤ 9223372036854775807) (hm : mk < 18446744073709551616) :
    Calls Tryd.prog 67 #[.agg #[.int .u8 k, .int .i64 wd, .int .u64 mk]] w fun e w' => e = .returned (.int .i64 (chk k wd mk)) ∧ Below w.heap.size w w' := by
  go_enter Tryd.func67, Tryd.ntmps67
  go_wp2
  all_goals go_ret
  all_goals refine ⟨ret_int ?_, (Below.refl _ _).alloc (Nat.le_refl _) _⟩
  all_goals simp [chk, okT]
  all_goals simp only [beq_iff_eq, beq_eq_false_iff_ne, bne_iff_ne, bne_eq_false_iff_eq, ne_eq] at *
  all_goals omega
end Go.Proofs.YtmjkohjijoddaaaDoor
