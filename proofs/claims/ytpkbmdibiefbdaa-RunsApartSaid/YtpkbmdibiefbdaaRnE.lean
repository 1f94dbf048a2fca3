/- Runs: meet. -/
import Derived.Test.YtpkbmdibiefbdaaRnC
namespace Go.Proofs.Ytpkbmdibiefbdaa
open Go.RowKit
set_option linter.unusedVariables false
set_option linter.unusedSimpArgs false

def meetB (a l b m : Int) : Bool := decide (a < b + m) && decide (b < a + l)
theorem meet_any (w : World) (a l b m : Int) (h : 0 ≤ a + l ∧ a + l ≤ 1000000 ∧ 0 ≤ b + m ∧ b + m ≤ 1000000) :
    Calls Try.prog 24 #[.agg #[.int .i64 a, .int .i64 l], .agg #[.int .i64 b, .int .i64 m]] w fun e w' => e = .returned (.bool (meetB a l b m)) ∧ Below w.heap.size w w' := by
  have b0 := (Blk.new w 24 #[.int .i64 a, .int .i64 l]).alloc (.cells #[.int .i64 b, .int .i64 m] 24)
  have b1 := Blk.new_at (w.alloc (.cells #[.int .i64 a, .int .i64 l] 24)) (w.heap.size + 1) 24 #[.int .i64 b, .int .i64 m] (by simp)
  obtain ⟨c0, c1⟩ := b0.c2
  obtain ⟨d0, d1⟩ := b1.c2
  have e1 : IntKind.i64.wrap (a + l) = a + l := by simp [IntKind.wrap, IntKind.signed, IntKind.bits]; omega
  have e2 : IntKind.i64.wrap (b + m) = b + m := by simp [IntKind.wrap, IntKind.signed, IntKind.bits]; omega
  have e3 : wrap64 (a + l) = a + l := by simp [wrap64]; omega
  have e4 : wrap64 (b + m) = b + m := by simp [wrap64]; omega
  have HB := Lib.hid (balloc (balloc (Below.refl w.heap.size w) (.cells #[.int .i64 a, .int .i64 l] 24)) (.cells #[.int .i64 b, .int .i64 m] 24))
  clear b0 b1 h
  have HV := Lib.hid (show meetB a l b m = (decide (a < b + m) && decide (b < a + l)) from rfl)
  by_cases h1 : a < b + m
  · by_cases h2 : b < a + l
    · have hv : meetB a l b m = true := by rw [HV.out]; simp [h1, h2]
      rw [hv]
      go_enter Try.func24, Try.ntmps24
      go_wp2_with fail
      go_ret
      exact ⟨by first | rfl | simp [h1, h2], HB.out⟩
    · have hv : meetB a l b m = false := by rw [HV.out]; simp [h1, h2]
      have d2 : decide (b < a + l) = false := by simpa using h2
      rw [hv]
      go_enter Try.func24, Try.ntmps24
      go_wp2_with fail
      go_ret
      exact ⟨by first | rfl | simp [d2], HB.out⟩
  · have hv : meetB a l b m = false := by rw [HV.out]; simp [h1]
    have d1' : decide (a < b + m) = false := by simpa using h1
    rw [hv]
    go_enter Try.func24, Try.ntmps24
    go_wp2_with fail
    go_ret
    exact ⟨by first | rfl | simp [d1'], HB.out⟩
end Go.Proofs.Ytpkbmdibiefbdaa
