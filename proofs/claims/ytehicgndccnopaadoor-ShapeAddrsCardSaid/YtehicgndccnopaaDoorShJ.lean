/- The law ShapeAddrs: the walk. -/
import Derived.Test.YtehicgndccnopaaDoorShI
namespace Go.Proofs.YtehicgndccnopaaDoor
open Go.RowKit
set_option linter.unusedVariables false
set_option linter.unusedSimpArgs false

set_option maxHeartbeats 2000000 in
theorem shapeAddrs_walk (g : Int) (g0 : -9223372036854775808 ≤ g) (g1 : g ≤ 9223372036854775807) (x : Int) (x0 : 0 ≤ x) (x1 : x < 18446744073709551616) (W : World) (hF : Flds W) :
    Calls Tryd.prog 8 #[.int .i64 g, .int .u64 x] W fun e w' => e = .returned (.bool true) ∧ Below W.heap.size W w' := by
  have HF := Lib.hid hF
  clear hF
  by_cases hg : 1099511627776 < g
  · go_enter Tryd.func8, Tryd.ntmps8
    go_wp2_with fail
    refine (alive08 _ HF.out).mono ?_
    rintro e w1 ⟨rfl, hb⟩
    go_wp2_with fail
    go_ret
    exact ⟨rfl, hb⟩
  · have r1 : (addrV g == addrV g) = true := by simp
    have r2 : (wdV x == wdV x) = true := by simp
    have r3 : (wdB x == wdB x) = true := by simp
    have HA := Lib.hid (fun w => addr_any w g (by omega))
    have HB := Lib.hid (fun w => refAddr_any w g (by omega))
    have HC := Lib.hid (fun w => word_any w x x0 (by omega))
    have HD := Lib.hid (fun w => refWord_any w x x0 (by omega))
    generalize addrV g = A at *
    generalize wdV x = B at *
    generalize wdB x = C at *
    go_enter Tryd.func8, Tryd.ntmps8
    go_wp2_with fail
    refine (HC.out _).mono ?_
    rintro e w' ⟨rfl, rfl⟩
    go_wp2_with fail
    refine (HD.out _).mono ?_
    rintro e w' ⟨rfl, rfl⟩
    go_wp2_with fail
    refine (HA.out _).mono ?_
    rintro e w' ⟨rfl, rfl⟩
    go_wp2_with fail
    refine (HB.out _).mono ?_
    rintro e w' ⟨rfl, rfl⟩
    go_wp2_with fail
    refine (alive08 _ HF.out).mono ?_
    rintro e w1 ⟨rfl, hb⟩
    go_wp2_with fail
    go_ret
    exact ⟨rfl, hb⟩
end Go.Proofs.YtehicgndccnopaaDoor
