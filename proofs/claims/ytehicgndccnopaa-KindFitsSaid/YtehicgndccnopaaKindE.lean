/- kind.Ref, kind.Refs. -/
import Derived.Test.YtehicgndccnopaaKindD
import Derived.LoopTactic
namespace Go.Proofs.Ytehicgndccnopaa
open Go.RowKit
set_option linter.unusedVariables false
set_option linter.unusedSimpArgs false

/-- The error of Ref. -/
def rE (k wd : Int) (mk : Nat) (n slot : Int) : Int := if ofE k wd mk n ≠ 0 then ofE k wd mk n else if slot < 0 ∨ slotsV k wd n ≤ slot then 2 else 0
def rB (k wd : Int) (mk : Nat) (n slot : Int) : Bool := if rE k wd mk n slot = 0 then refV k wd mk slot else false

section
variable (k wd : Int) (mk : Nat) (n : Int) (w : World) (hk : 0 ≤ k ∧ k < 256) (hw : -9223372036854775808 ≤ wd ∧ wd ≤ 9223372036854775807) (hm : mk < 18446744073709551616)
include hk hw hm

set_option maxHeartbeats 1000000 in
theorem kref_any (slot : Int) : Calls Try.prog 23 #[.agg #[.int .u8 k, .int .i64 wd, .int .u64 (mk : Int)], .int .i64 n, .int .i64 slot] w fun e w' => e = .returned (.tuple #[.bool (rB k wd mk n slot), .int .i64 (rE k wd mk n slot)]) ∧ Below w.heap.size w w' := by
  have HK := Lib.hid hk
  have HW := Lib.hid hw
  have HM := Lib.hid hm
  clear hk hw hm
  by_cases h : ofE k wd mk n = 0
  · obtain ⟨h1, h2, h3⟩ := ofE_facts h
    obtain ⟨g1, g2, g3, g4⟩ := okT_facts h1
    obtain ⟨s1, s2⟩ := slotsV_bd h
    have HE := Lib.hid h
    have H2 := Lib.hid h2
    have G1 := Lib.hid g1
    have G2 := Lib.hid g2
    have G3 := Lib.hid g3
    clear h1 h2 h3 g1 g2 g3 g4
    by_cases hs : slot < 0
    · have HR := Lib.hid (show rE k wd mk n slot = 2 by simp [rE, h, hs])
      have HB := Lib.hid (show rB k wd mk n slot = false by simp [rB, HR.out])
      have t1 : decide (slot < 0) = true := by simpa using hs
      clear h
      go_enter Try.func23, Try.ntmps23
      go_wp2_with fail
      refine (of_ok k wd mk n _ HK.out HW.out HM.out HE.out).mono ?_
      rintro e w1 ⟨rfl, hb⟩
      have hB := bnext (balloc (Below.refl _ w) _) hb
      clear hb
      go_wp2_with fail
      go_ret2
      rw [HR.out, HB.out]
      exact ⟨rfl, balloc hB _⟩
    · have t1 : decide (slot < 0) = false := by simpa using hs
      by_cases hl : slotsV k wd n ≤ slot
      · have HR := Lib.hid (show rE k wd mk n slot = 2 by simp [rE, h, hl])
        have HB := Lib.hid (show rB k wd mk n slot = false by simp [rB, HR.out])
        clear h
        go_enter Try.func23, Try.ntmps23
        go_wp2_with fail
        refine (of_ok k wd mk n _ HK.out HW.out HM.out HE.out).mono ?_
        rintro e w1 ⟨rfl, hb⟩
        have hB := bnext (balloc (Below.refl _ w) _) hb
        clear hb
        go_wp2_with fail
        refine (slots_any k wd mk n G1.out G2.out H2.out _).mono ?_
        rintro e w2 ⟨rfl, hb⟩
        have hB2 := bnext (balloc hB _) hb
        clear hb
        generalize slotsV k wd n = z at *
        have t2 : decide (z ≤ slot) = true := by simpa using hl
        go_wp2_with fail
        go_ret2
        rw [HR.out, HB.out]
        exact ⟨rfl, hB2⟩
      · have HR := Lib.hid (show rE k wd mk n slot = 0 by simp [rE, h, hs, hl])
        have HB := Lib.hid (show rB k wd mk n slot = refV k wd mk slot by simp [rB, HR.out])
        clear h
        go_enter Try.func23, Try.ntmps23
        go_wp2_with fail
        refine (of_ok k wd mk n _ HK.out HW.out HM.out HE.out).mono ?_
        rintro e w1 ⟨rfl, hb⟩
        have hB := bnext (balloc (Below.refl _ w) _) hb
        clear hb
        have b1 := Blk.new w1 94 #[.int .u8 k, .int .i64 wd, .int .u64 (mk : Int), .int .i64 n]
        go_wp2_with fail
        refine (slots_any k wd mk n G1.out G2.out H2.out _).mono ?_
        rintro e w2 ⟨rfl, hb⟩
        have hB2 := bnext (balloc hB _) hb
        have b2 := b1.nx hb
        clear hb b1
        obtain ⟨c0, c1, c2, c3⟩ := b2.c4
        generalize slotsV k wd n = z at *
        have t2 : decide (z ≤ slot) = false := by simpa using hl
        go_wp2_with fail
        refine (ref_any k wd mk n slot G1.out G3.out HM.out (by omega) (by omega) _).mono ?_
        rintro e w3 ⟨rfl, hb⟩
        have hB3 := bnext hB2 hb
        clear hb
        go_wp2_with fail
        go_ret2
        rw [HR.out, HB.out]
        exact ⟨rfl, hB3⟩
  · have HE := Lib.hid h
    have HR := Lib.hid (show rE k wd mk n slot = ofE k wd mk n by simp [rE, h])
    have HB := Lib.hid (show rB k wd mk n slot = false by simp [rB, HR.out, h])
    have hne : (ofE k wd mk n != 0) = true := by simpa using h
    clear h
    go_enter Try.func23, Try.ntmps23
    go_wp2_with fail
    refine (of_no k wd mk n _ HK.out HW.out HM.out HE.out).mono ?_
    rintro e w1 ⟨rfl, hb⟩
    have hB := bnext (balloc (Below.refl _ w) _) hb
    clear hb
    go_wp2_with fail
    go_ret2
    rw [HR.out, HB.out]
    exact ⟨rfl, balloc hB _⟩
end
end Go.Proofs.Ytehicgndccnopaa
