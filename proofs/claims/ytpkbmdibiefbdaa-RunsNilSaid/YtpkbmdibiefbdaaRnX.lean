/- The law RunsNil: the walk. -/
import Derived.Test.YtpkbmdibiefbdaaRnV
namespace Go.Proofs.Ytpkbmdibiefbdaa
open Go.RowKit
set_option linter.unusedVariables false
set_option linter.unusedSimpArgs false

set_option maxRecDepth 100000 in
set_option maxHeartbeats 4000000 in
theorem runsNil_walk (a l : Int) (a0 : -9223372036854775808 ≤ a) (a1 : a ≤ 9223372036854775807) (l0 : -9223372036854775808 ≤ l) (l1 : l ≤ 9223372036854775807) (i : Int) (i0 : -9223372036854775808 ≤ i) (i1 : i ≤ 9223372036854775807) (n : Int) (n0 : -9223372036854775808 ≤ n) (n1 : n ≤ 9223372036854775807) (w : World) :
    Calls Try.prog 5 #[.agg #[.int .i64 a, .int .i64 l], .int .i64 i, .int .i64 n] w fun e w' => e = .returned (.bool true) ∧ Below w.heap.size w w' := by
  have b0 := Blk.new w 24 #[.int .i64 a, .int .i64 l]
  have hb0 := balloc (Below.refl _ w) (.cells #[.int .i64 a, .int .i64 l] 24)
  have X0 := Lib.hid b0
  have B0 := Lib.hid hb0
  clear b0 hb0 i0 i1 n0 n1 a0 a1 l0 l1
  go_enter Try.func5, Try.ntmps5
  go_wp2_with fail
  refine (of_nil _ i).mono ?_
  rintro e w1 ⟨rfl, hb⟩
  have X1 := Lib.hid ((X0.out.nx hb).alloc (.cells #[.int .i64 0, .int .i64 0] 24))
  have B1 := Lib.hid (balloc (bnext B0.out hb) (.cells #[.int .i64 0, .int .i64 0] 24))
  clear hb X0 B0
  go_wp2_with fail
  refine (first_nil _ n i).mono ?_
  rintro e w2 ⟨rfl, hb⟩
  have hx := (X1.out.nx hb).alloc (.cells #[.int .i64 0, .int .i64 0] 24)
  have X2 := Lib.hid hx
  have B2 := Lib.hid (balloc (bnext B1.out hb) (.cells #[.int .i64 0, .int .i64 0] 24))
  obtain ⟨c0, c1⟩ := hx.c2
  clear hb hx X1 B1
  go_wp2_with fail
  refine (add_nil _ a l).mono ?_
  rintro e w3 ⟨rfl, hb⟩
  have B3 := Lib.hid (bnext B2.out hb)
  obtain ⟨d0, d1⟩ := (X2.out.nx hb).c2
  clear hb B2 X2 c0 c1
  go_wp2_with fail
  refine (cut_nil _ a l).mono ?_
  rintro e w4 ⟨rfl, hb⟩
  have B4 := Lib.hid (bnext B3.out hb)
  clear hb B3 d0 d1
  go_wp2_with fail
  refine (has_nil _ i).mono ?_
  rintro e w5 ⟨rfl, hb⟩
  have B5 := Lib.hid (bnext B4.out hb)
  clear hb B4
  go_wp2_with fail
  refine (list_nil _).mono ?_
  rintro e w6 ⟨rfl, hb⟩
  have B6 := Lib.hid (bnext B5.out hb)
  clear hb B5
  go_wp2_with fail
  refine (total_nil _).mono ?_
  rintro e w7 ⟨rfl, hb⟩
  have B7 := Lib.hid (bnext B6.out hb)
  clear hb B6
  go_wp2_with fail
  refine (copy_nil _).mono ?_
  rintro e w8 ⟨rfl, hb⟩
  have B8 := Lib.hid (bnext B7.out hb)
  clear hb B7
  go_wp2_with fail
  refine (alive04 _).mono ?_
  rintro e w9 ⟨rfl, hb⟩
  go_wp2_with fail
  go_ret
  exact ⟨rfl, bnext B8.out hb⟩
end Go.Proofs.Ytpkbmdibiefbdaa
