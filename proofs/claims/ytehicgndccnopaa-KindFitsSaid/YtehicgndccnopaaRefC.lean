/- The document's is, Ref, Refs of layer 5; kind.Refs of what may not be. -/
import Derived.Test.YtehicgndccnopaaRefB
namespace Go.Proofs.Ytehicgndccnopaa
open Go.RowKit
set_option linter.unusedVariables false
set_option linter.unusedSimpArgs false

theorem okT_raw {wd : Int} {mk : Nat} (h : okT 4 wd mk = true) : mk = 0 := by
  have h1 := (okT_facts h).2.2.2 (by omega)
  subst h1
  simp [okT] at h
  omega

set_option maxHeartbeats 1000000 in
theorem is_any (k wd : Int) (mk : Nat) (slot : Int) (hm : mk < 18446744073709551616) (ho : okT k wd mk = true) (h0 : 0 ≤ slot) (h1 : slot ≤ 262144) (w : World) :
    Calls Try.prog 62 #[.agg #[.int .u8 k, .int .i64 wd, .int .u64 (mk : Int)], .int .i64 slot] w fun e w' => e = .returned (.bool (refV k wd mk slot)) ∧ Below w.heap.size w w' := by
  have hu : IntKind.u64.wrap slot = slot := by simp [IntKind.wrap, IntKind.signed, IntKind.bits]; omega
  obtain ⟨g1, g2, g3, g4⟩ := okT_facts ho
  have HR := Lib.hid (@okT_raw wd mk)
  have HO := Lib.hid ho
  clear g2 g4 ho
  rcases g1 with rfl | rfl | rfl | rfl
  · have H := Lib.hid (bit_tmod hm slot.toNat)
    clear g3
    go_enter Try.func62, Try.ntmps62
    go_wp2
    go_ret
    exact ⟨ret_bool (by rw [H.out]; simp [refV]), (Below.refl _ _).alloc (Nat.le_refl _) _⟩
  · clear g3
    go_enter Try.func62, Try.ntmps62
    go_wp2
    go_ret
    exact ⟨ret_bool (by simp [refV]), (Below.refl _ _).alloc (Nat.le_refl _) _⟩
  · obtain ⟨h4, h5⟩ := g3 rfl
    clear g3
    have l0 : 0 ≤ slot % wd := Int.emod_nonneg _ (by omega)
    have l1 : slot % wd < wd := Int.emod_lt_of_pos _ (by omega)
    have e1 : slot.tmod wd = slot % wd := Int.tmod_eq_emod_of_nonneg h0
    have hv : IntKind.u64.wrap (slot % wd) = slot % wd := by generalize slot % wd = z at *; simp [IntKind.wrap, IntKind.signed, IntKind.bits]; omega
    have e2 : ((slot % wd).toNat : Int) = slot % wd := by omega
    have hb := bit_tmod hm (slot % wd).toNat
    have hb1 := hb
    rw [Nat.min_eq_left (by omega)] at hb1
    have H := Lib.hid hb
    have H1 := Lib.hid hb1
    clear hb hb1 e2
    have hwd : (wd == 0) = false := by simp; omega
    go_enter Try.func62, Try.ntmps62
    go_wp2_with fail
    go_quiet (fail)
    go_wp2
    go_ret
    refine ⟨ret_bool ?_, below_drewN ((Below.refl _ _).alloc (Nat.le_refl _) _) _⟩
    first | (rw [H.out]; simp [refV]) | (rw [H1.out]; simp [refV])
  · have e := HR.out HO.out
    subst e
    clear g3
    go_enter Try.func62, Try.ntmps62
    go_wp2
    go_ret
    exact ⟨ret_bool (by simp [refV, bitV]), (Below.refl _ _).alloc (Nat.le_refl _) _⟩

section
variable (k wd : Int) (mk : Nat) (n : Int) (w : World) (hk : 0 ≤ k ∧ k < 256) (hw : -9223372036854775808 ≤ wd ∧ wd ≤ 9223372036854775807) (hm : mk < 18446744073709551616)
include hk hw hm

set_option maxHeartbeats 1000000 in
theorem rref_any (slot : Int) : Calls Try.prog 24 #[.agg #[.int .u8 k, .int .i64 wd, .int .u64 (mk : Int)], .int .i64 n, .int .i64 slot] w fun e w' => e = .returned (.tuple #[.bool (rB k wd mk n slot), .int .i64 (rE k wd mk n slot)]) ∧ Below w.heap.size w w' := by
  have HC := Lib.hid (rslots_any k wd mk n (w.alloc (.cells #[.int .u8 k, .int .i64 wd, .int .u64 (mk : Int)] 24)) hk hw hm)
  have HM := Lib.hid hm
  have b0 := Blk.new w 24 #[.int .u8 k, .int .i64 wd, .int .u64 (mk : Int)]
  clear hk hw hm
  by_cases h : ofE k wd mk n = 0
  · obtain ⟨h1, h2, h3⟩ := ofE_facts h
    obtain ⟨s1, s2⟩ := slotsV_bd h
    have HE := Lib.hid h
    have HN := Lib.hid (show nS k wd mk n = slotsV k wd n by simp [nS, h])
    have HO := Lib.hid h1
    clear h1 h2 h3
    by_cases hs : slot < 0
    · have HR := Lib.hid (show rE k wd mk n slot = 2 by simp [rE, h, hs])
      have HB := Lib.hid (show rB k wd mk n slot = false by simp [rB, HR.out])
      have t1 : decide (slot < 0) = true := by simpa using hs
      clear h
      go_enter Try.func24, Try.ntmps24
      go_wp2_with fail
      refine HC.out.mono ?_
      rintro e w1 ⟨rfl, hb⟩
      rw [HE.out, HN.out]
      have hB := bnext (balloc (Below.refl _ w) _) hb
      clear hb
      go_wp2_with fail
      go_ret2
      rw [HR.out, HB.out]
      exact ⟨rfl, hB⟩
    · have t1 : decide (slot < 0) = false := by simpa using hs
      by_cases hl : slotsV k wd n ≤ slot
      · have HR := Lib.hid (show rE k wd mk n slot = 2 by simp [rE, h, hl])
        have HB := Lib.hid (show rB k wd mk n slot = false by simp [rB, HR.out])
        clear h
        go_enter Try.func24, Try.ntmps24
        go_wp2_with fail
        refine HC.out.mono ?_
        rintro e w1 ⟨rfl, hb⟩
        rw [HE.out, HN.out]
        have hB := bnext (balloc (Below.refl _ w) _) hb
        clear hb
        generalize slotsV k wd n = z at *
        go_wp2_with fail
        go_ret2
        rw [HR.out, HB.out]
        exact ⟨rfl, hB⟩
      · have HR := Lib.hid (show rE k wd mk n slot = 0 by simp [rE, h, hs, hl])
        have HB := Lib.hid (show rB k wd mk n slot = refV k wd mk slot by simp [rB, HR.out])
        clear h
        go_enter Try.func24, Try.ntmps24
        go_wp2_with fail
        refine HC.out.mono ?_
        rintro e w1 ⟨rfl, hb⟩
        rw [HE.out, HN.out]
        have hB := bnext (balloc (Below.refl _ w) _) hb
        have b1 := b0.nx hb
        clear hb
        obtain ⟨c0, c1, c2⟩ := b1.c3
        generalize slotsV k wd n = z at *
        go_wp2_with fail
        refine (is_any k wd mk slot HM.out HO.out (by omega) (by omega) _).mono ?_
        rintro e w2 ⟨rfl, hb⟩
        have hB2 := bnext hB hb
        clear hb
        go_wp2_with fail
        go_ret2
        rw [HR.out, HB.out]
        exact ⟨rfl, hB2⟩
  · have HE := Lib.hid h
    have HR := Lib.hid (show rE k wd mk n slot = ofE k wd mk n by simp [rE, h])
    have HB := Lib.hid (show rB k wd mk n slot = false by simp [rB, HR.out, h])
    have hne : (ofE k wd mk n != 0) = true := by simpa using h
    clear h
    go_enter Try.func24, Try.ntmps24
    go_wp2_with fail
    refine HC.out.mono ?_
    rintro e w1 ⟨rfl, hb⟩
    have hB := bnext (balloc (Below.refl _ w) _) hb
    clear hb
    go_wp2_with fail
    go_ret2
    rw [HR.out, HB.out]
    exact ⟨rfl, hB⟩

set_option maxHeartbeats 1000000 in
theorem krefs_no (h : ofE k wd mk n ≠ 0) : Calls Try.prog 22 #[.agg #[.int .u8 k, .int .i64 wd, .int .u64 (mk : Int)], .int .i64 n] w (GivesRow .i64 [] (ofE k wd mk n) w) := by
  have HC := Lib.hid (of_no k wd mk n (w.alloc (.cells #[.int .u8 k, .int .i64 wd, .int .u64 (mk : Int)] 24)) hk hw hm h)
  have hne : (ofE k wd mk n != 0) = true := by simpa using h
  clear hk hw hm h
  go_enter Try.func22, Try.ntmps22
  go_wp2_with fail
  refine HC.out.mono ?_
  rintro e w1 ⟨rfl, hb⟩
  have hB := bnext (balloc (Below.refl _ w) _) hb
  clear hb
  go_wp2_with fail
  go_ret2
  exact ⟨none, 0, 0, rfl, Reads.none_, Nat.le_refl _, balloc hB _⟩

set_option maxHeartbeats 1000000 in
theorem rrefs_no (h : ofE k wd mk n ≠ 0) : Calls Try.prog 25 #[.agg #[.int .u8 k, .int .i64 wd, .int .u64 (mk : Int)], .int .i64 n] w (GivesRow .i64 [] (ofE k wd mk n) w) := by
  have HC := Lib.hid (rslots_any k wd mk n (w.alloc (.cells #[.int .u8 k, .int .i64 wd, .int .u64 (mk : Int)] 24)) hk hw hm)
  have hne : (ofE k wd mk n != 0) = true := by simpa using h
  clear hk hw hm h
  go_enter Try.func25, Try.ntmps25
  go_wp2_with fail
  refine HC.out.mono ?_
  rintro e w1 ⟨rfl, hb⟩
  have hB := bnext (balloc (Below.refl _ w) _) hb
  clear hb
  go_wp2_with fail
  go_ret2
  exact ⟨none, 0, 0, rfl, Reads.none_, Nat.le_refl _, hB⟩
end
end Go.Proofs.Ytehicgndccnopaa
