/- The law KindRefs: the walk. -/
import Derived.Test.YtehicgndccnopaaRefD
namespace Go.Proofs.Ytehicgndccnopaa
open Go.RowKit
set_option linter.unusedVariables false
set_option linter.unusedSimpArgs false

set_option maxHeartbeats 1000000 in
theorem kindRefs_core (k wd : Int) (mk : Nat) (n slot : Int) (hk : 0 ≤ k ∧ k < 256) (hw : -9223372036854775808 ≤ wd ∧ wd ≤ 9223372036854775807) (hm : mk < 18446744073709551616) (w : World) :
    Calls Try.prog 5 #[.agg #[.int .u8 k, .int .i64 wd, .int .u64 (mk : Int)], .int .i64 n, .int .i64 slot] w fun e w' => e = .returned (.bool true) ∧ Below w.heap.size w w' := by
  have HK := Lib.hid hk
  have HW := Lib.hid hw
  have HM := Lib.hid hm
  have b1 := Blk.new w 24 #[.int .u8 k, .int .i64 wd, .int .u64 (mk : Int)]
  have B1 := balloc (Below.refl _ w) (.cells #[.int .u8 k, .int .i64 wd, .int .u64 (mk : Int)] 24)
  clear hk hw hm
  go_enter Try.func5, Try.ntmps5
  go_wp2_with fail
  refine (kref_any k wd mk n _ HK.out HW.out HM.out slot).mono ?_
  rintro e w1 ⟨rfl, hb1⟩
  have b2 := b1.nx hb1
  have B2 := bnext B1 hb1
  obtain ⟨c0, c1, c2⟩ := b2.c3
  clear hb1
  go_wp2_with fail
  refine (rref_any k wd mk n _ HK.out HW.out HM.out slot).mono ?_
  rintro e w2 ⟨rfl, hb2⟩
  have b3 := b2.nx hb2
  have B3 := bnext B2 hb2
  clear c0 c1 c2 hb2 b2 B2
  obtain ⟨c0, c1, c2⟩ := b3.c3
  go_wp2_with fail
  refine (krefs_any k wd mk n _ HK.out HW.out HM.out).mono ?_
  rintro e w3 ⟨A, n1, cc, rfl, hr, hcc, hb3⟩
  have b4 := b3.nx hb3
  have B4 := bnext B3 hb3
  clear c0 c1 c2 hb3 b3 B3
  obtain ⟨c0, c1, c2⟩ := b4.c3
  have HL := Lib.hid (refsR_le k wd mk n)
  have R3 := Lib.hid hr
  clear hr
  go_wp2_with fail
  refine (rrefs_any k wd mk n _ HK.out HW.out HM.out).mono ?_
  rintro e w4 ⟨A', n2, cc', rfl, hr, hcc', hb4⟩
  have B5 := bnext B4 hb4
  have R4 := Lib.hid hr
  have R3' := Lib.hid ((R3.out.below hb4).more hb4.size)
  clear c0 c1 c2 hb4 b4 B4 hr
  have e1 : (rB k wd mk n slot == rB k wd mk n slot) = true := by simp
  have e2 : (rE k wd mk n slot == rE k wd mk n slot) = true := by simp
  have e3 : (ofE k wd mk n == ofE k wd mk n) = true := by simp
  go_wp2_with fail
  refine (sameInts_any _ A A' n1 cc n2 cc' _ _ R3'.out R4.out (by have := R3'.out.1; have := HL.out; simp at *; omega) (by have := R4.out.1; have := HL.out; simp at *; omega)).mono ?_
  rintro e w5 ⟨rfl, hb5⟩
  rw [decide_eq_true (rfl : refsR k wd mk n = refsR k wd mk n)]
  have B6 := bnext B5 hb5
  clear hb5 R4 R3'
  go_wp2_with fail
  refine (alive05 _).mono ?_
  rintro e w7 ⟨rfl, hb7⟩
  have B8 := bnext B6 hb7
  go_wp2_with fail
  go_ret
  exact ⟨rfl, B8⟩
theorem kindRefs_walk (k wd mk : Int) (k0 : 0 ≤ k) (k1 : k < 256) (w0 : -9223372036854775808 ≤ wd) (w1 : wd ≤ 9223372036854775807) (m0 : 0 ≤ mk) (m1 : mk < 18446744073709551616) (n : Int) (n0 : -9223372036854775808 ≤ n) (n1 : n ≤ 9223372036854775807) (slot : Int) (s0 : -9223372036854775808 ≤ slot) (s1 : slot ≤ 9223372036854775807) (w : World) :
    Calls Try.prog 5 #[.agg #[.int .u8 k, .int .i64 wd, .int .u64 mk], .int .i64 n, .int .i64 slot] w fun e w' => e = .returned (.bool true) ∧ Below w.heap.size w w' := by
  obtain ⟨m, rfl⟩ := Int.eq_ofNat_of_zero_le m0
  exact kindRefs_core k wd m n slot ⟨k0, k1⟩ ⟨w0, w1⟩ (by omega) w
end Go.Proofs.Ytehicgndccnopaa
