/- The law KindTells, and the chapter's examples. -/
import Derived.Test.YtehicgndccnopaaRefB
import Derived.Test.YtehicgndccnopaaSameI
namespace Go.Proofs.Ytehicgndccnopaa
open Go.RowKit
set_option linter.unusedVariables false
set_option linter.unusedSimpArgs false

section
variable (k wd mk n : Int) (w : World) (hk : 0 ≤ k ∧ k < 256) (hw : -9223372036854775808 ≤ wd ∧ wd ≤ 9223372036854775807) (hm : 0 ≤ mk ∧ mk < 18446744073709551616)
include hk hw hm
theorem checkI : Calls Try.prog 15 #[.agg #[.int .u8 k, .int .i64 wd, .int .u64 mk]] w fun e w' => e = .returned (.int .i64 (chk k wd mk.toNat)) ∧ Below w.heap.size w w' := by
  obtain ⟨m, rfl⟩ := Int.eq_ofNat_of_zero_le hm.1
  exact check_any k wd m w hk hw (by omega)
theorem ksizeI : Calls Try.prog 19 #[.agg #[.int .u8 k, .int .i64 wd, .int .u64 mk], .int .i64 n] w fun e w' => e = .returned (.tuple #[.int .i64 (gS k wd mk.toNat n), .int .i64 (ofE k wd mk.toNat n)]) ∧ Below w.heap.size w w' := by
  obtain ⟨m, rfl⟩ := Int.eq_ofNat_of_zero_le hm.1
  exact ksize_any k wd m n w hk hw (by omega)
theorem krefsI (h : ofE k wd mk.toNat n = 0) : Calls Try.prog 22 #[.agg #[.int .u8 k, .int .i64 wd, .int .u64 mk], .int .i64 n] w (GivesRow .i64 (refsL k wd mk.toNat (slotsV k wd n).toNat) 0 w) := by
  obtain ⟨m, rfl⟩ := Int.eq_ofNat_of_zero_le hm.1
  exact krefs_ok k wd m n w hk hw (by omega) h
end

set_option maxHeartbeats 1000000 in
theorem alive05 (w : World) : Calls Try.prog 21 #[] w fun e w' => e = .returned (.bool true) ∧ Below w.heap.size w w' := by
  go_enter Try.func21, Try.ntmps21
  go_wp2_with fail
  refine (ksizeI 1 3 0 0 _ (by omega) (by omega) (by omega)).mono ?_
  rintro e w1 ⟨rfl, hb1⟩
  rw [show gS 1 3 (Int.toNat 0) 0 = 2 from by decide, show ofE 1 3 (Int.toNat 0) 0 = 0 from by decide]
  go_wp2_with fail
  refine (ksizeI 4 0 0 4 _ (by omega) (by omega) (by omega)).mono ?_
  rintro e w2 ⟨rfl, hb2⟩
  rw [show gS 4 0 (Int.toNat 0) 4 = 3 from by decide, show ofE 4 0 (Int.toNat 0) 4 = 0 from by decide]
  have B2 := bnext hb1 hb2
  clear hb1 hb2
  go_wp2_with fail
  refine (krefsI 3 2 2 3 _ (by omega) (by omega) (by omega) (by decide)).mono ?_
  rintro e w3 ⟨A, n, c, rfl, hr, hnc, hb3⟩
  rw [show refsL 3 2 (Int.toNat 2) (slotsV 3 2 3).toNat = [1, 3, 5] from by decide] at hr
  have hn : n = 3 := by have := hr.1; simp at this; omega
  subst hn
  have B3 := bnext B2 hb3
  have R3 := Lib.hid hr
  clear B2 hb3 hr
  go_wp2_with fail
  refine (ksizeI 4 0 0 4097 _ (by omega) (by omega) (by omega)).mono ?_
  rintro e w4 ⟨rfl, hb4⟩
  rw [show gS 4 0 (Int.toNat 0) 4097 = 0 from by decide, show ofE 4 0 (Int.toNat 0) 4097 = 5 from by decide]
  have B4 := bnext B3 hb4
  have R4 := Lib.hid (R3.out.below hb4)
  have hz := hb4.size
  clear B3 hb4 R3
  go_wp2_with fail
  have hl : Reads (w4.alloc (.cells #[.int .i64 1, .int .i64 3, .int .i64 5] 3)) (w4.alloc (.cells #[.int .i64 1, .int .i64 3, .int .i64 5] 3)).heap.size 1 (some ⟨w4.heap.size, 0, none⟩) 3 ([1, 3, 5].map (Value.int .i64)) :=
    ⟨rfl, fun _ => ⟨_, rfl, by simp, fun j u hu => by
      have hb := Blk.new w4 3 #[.int .i64 1, .int .i64 3, .int .i64 5]
      match j, hu with
      | 0, hu => cases hu; exact hb.cell 0
      | 1, hu => cases hu; exact hb.cell 1
      | 2, hu => cases hu; exact hb.cell 2⟩⟩
  refine (sameInts_any _ A _ 3 c 3 3 [1, 3, 5] [1, 3, 5] ((R4.out.alloc hz _).more (by simp; omega)) hl (by omega) (by omega)).mono ?_
  rintro e w5 ⟨rfl, hb5⟩
  rw [show decide ([1, 3, 5] = ([1, 3, 5] : List Int)) = true from by decide]
  have B5 := bnext (balloc B4 _) hb5
  clear B4 hb5 R4 hl
  go_wp2_with fail
  refine (checkI 1 1 2 _ (by omega) (by omega) (by omega)).mono ?_
  rintro e w6 ⟨rfl, hb6⟩
  rw [show chk 1 1 (Int.toNat 2) = 2 from by decide]
  have B6 := bnext B5 hb6
  clear B5 hb6
  go_wp2_with fail
  go_ret
  exact ⟨rfl, B6⟩

set_option maxHeartbeats 1000000 in
theorem kindTells_core (k wd : Int) (mk : Nat) (n : Int) (hk : 0 ≤ k ∧ k < 256) (hw : -9223372036854775808 ≤ wd ∧ wd ≤ 9223372036854775807) (hm : mk < 18446744073709551616) (w : World) :
    Calls Try.prog 3 #[.agg #[.int .u8 k, .int .i64 wd, .int .u64 (mk : Int)], .int .i64 n] w fun e w' => e = .returned (.bool true) ∧ Below w.heap.size w w' := by
  have HK := Lib.hid hk
  have HW := Lib.hid hw
  have HM := Lib.hid hm
  have b1 := Blk.new w 24 #[.int .u8 k, .int .i64 wd, .int .u64 (mk : Int)]
  have B1 := balloc (Below.refl _ w) (.cells #[.int .u8 k, .int .i64 wd, .int .u64 (mk : Int)] 24)
  clear hk hw hm
  have key : ∀ b : Bool, okT k wd mk = b → chk k wd mk = if b then 0 else 2 := fun b h => by cases b <;> simp [chk, h]
  have KEY := Lib.hid key
  clear key
  cases ho : okT k wd mk
  all_goals
    have HO := Lib.hid ho
    clear ho
    go_enter Try.func3, Try.ntmps3
    go_wp2_with fail
    refine (check_any k wd mk _ HK.out HW.out HM.out).mono ?_
    rintro e w1 ⟨rfl, hb1⟩
    rw [KEY.out _ HO.out]
    simp only [if_true, if_false, Bool.false_eq_true]
    have b2 := b1.nx hb1
    have B2 := bnext B1 hb1
    obtain ⟨c0, c1, c2⟩ := b2.c3
    clear hb1
    go_wp2_with fail
    refine (rmay_any k wd mk _ HK.out HW.out HM.out).mono ?_
    rintro e w2 ⟨rfl, hb2⟩
    rw [HO.out]
    have b3 := b2.nx hb2
    have B3 := bnext B2 hb2
    clear c0 c1 c2 hb2 b2 B2
    obtain ⟨c0, c1, c2⟩ := b3.c3
    go_wp2_with fail
    refine (kslots_any k wd mk n _ HK.out HW.out HM.out).mono ?_
    rintro e w3 ⟨rfl, hb3⟩
    have b4 := b3.nx hb3
    have B4 := bnext B3 hb3
    clear c0 c1 c2 hb3 b3 B3
    obtain ⟨c0, c1, c2⟩ := b4.c3
    go_wp2_with fail
    refine (rslots_any k wd mk n _ HK.out HW.out HM.out).mono ?_
    rintro e w4 ⟨rfl, hb4⟩
    have b5 := b4.nx hb4
    have B5 := bnext B4 hb4
    clear c0 c1 c2 hb4 b4 B4
    obtain ⟨c0, c1, c2⟩ := b5.c3
    go_wp2_with fail
    refine (ksize_any k wd mk n _ HK.out HW.out HM.out).mono ?_
    rintro e w5 ⟨rfl, hb5⟩
    have b6 := b5.nx hb5
    have B6 := bnext B5 hb5
    clear c0 c1 c2 hb5 b5 B5
    obtain ⟨c0, c1, c2⟩ := b6.c3
    go_wp2_with fail
    refine (rsize_any k wd mk n _ HK.out HW.out HM.out).mono ?_
    rintro e w6 ⟨rfl, hb6⟩
    have B7 := bnext B6 hb6
    clear c0 c1 c2 hb6 b6 B6
    have e1 : (nS k wd mk n == nS k wd mk n) = true := by simp
    have e2 : (ofE k wd mk n == ofE k wd mk n) = true := by simp
    have e3 : (gS k wd mk n == gS k wd mk n) = true := by simp
    go_wp2_with fail
    refine (alive05 _).mono ?_
    rintro e w7 ⟨rfl, hb7⟩
    have B8 := bnext B7 hb7
    go_wp2_with fail
    go_ret
    exact ⟨rfl, B8⟩
theorem kindTells_walk (k wd mk : Int) (k0 : 0 ≤ k) (k1 : k < 256) (w0 : -9223372036854775808 ≤ wd) (w1 : wd ≤ 9223372036854775807) (m0 : 0 ≤ mk) (m1 : mk < 18446744073709551616) (n : Int) (n0 : -9223372036854775808 ≤ n) (n1 : n ≤ 9223372036854775807) (w : World) :
    Calls Try.prog 3 #[.agg #[.int .u8 k, .int .i64 wd, .int .u64 mk], .int .i64 n] w fun e w' => e = .returned (.bool true) ∧ Below w.heap.size w w' := by
  obtain ⟨m, rfl⟩ := Int.eq_ofNat_of_zero_le m0
  exact kindTells_core k wd m n ⟨k0, k1⟩ ⟨w0, w1⟩ (by omega) w
end Go.Proofs.Ytehicgndccnopaa
