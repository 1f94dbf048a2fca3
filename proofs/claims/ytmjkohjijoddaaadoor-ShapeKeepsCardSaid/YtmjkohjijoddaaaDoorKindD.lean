/- layout.ref, Slots, Size, Ref. -/
import Derived.Test.YtmjkohjijoddaaaDoorKindC
namespace Go.Proofs.YtmjkohjijoddaaaDoor
open Go.RowKit
set_option linter.unusedVariables false
set_option linter.unusedSimpArgs false

/-- One bit of a mask. -/
def bitV (mk s : Nat) : Bool := mk / 2 ^ s % 2 == 1
/-- Is the slot a reference? -/
def refV (k wd : Int) (mk : Nat) (slot : Int) : Bool := if k = 2 then true else bitV mk (if k = 3 then (slot % wd).toNat else slot.toNat)

theorem shr_nat {mk : Nat} (hm : mk < 18446744073709551616) (s : Nat) : (mk : Int) / 2 ^ min s 64 = ((mk / 2 ^ s : Nat) : Int) := by
  have h : mk / 2 ^ min s 64 = mk / 2 ^ s := by
    rcases Nat.le_total s 64 with h | h
    · rw [Nat.min_eq_left h]
    · rw [Nat.min_eq_right h, Nat.div_eq_of_lt (by omega), Nat.div_eq_of_lt]
      exact Nat.lt_of_lt_of_le (by omega : mk < 2 ^ 64) (Nat.pow_le_pow_right (by omega) h)
  rw [← h]
  simp
theorem bit_and {mk : Nat} (hm : mk < 18446744073709551616) (s : Nat) : (bits .and .u64 ((mk : Int) / 2 ^ min s 64) 1 == 1) = bitV mk s := by
  have h1 : mk / 2 ^ s < 18446744073709551616 := Nat.lt_of_le_of_lt (Nat.div_le_self _ _) hm
  have h2 := bits_and_u64_nat (mk / 2 ^ s) 1 h1 (by omega)
  rw [Nat.and_one_is_mod] at h2
  rw [shr_nat hm, show (1 : Int) = ((1 : Nat) : Int) from rfl, h2, bitV, Bool.eq_iff_iff]
  simp only [beq_iff_eq]
  omega
theorem bit_mod {mk : Nat} (hm : mk < 18446744073709551616) (s : Nat) : ((mk : Int) / 2 ^ min s 64 % 2 == 1) = bitV mk s := by
  rw [shr_nat hm, bitV, Bool.eq_iff_iff]
  simp only [beq_iff_eq]
  omega

set_option maxHeartbeats 1000000 in
theorem ref_any (k wd : Int) (mk : Nat) (n slot : Int) (hk : k = 1 ∨ k = 2 ∨ k = 3 ∨ k = 4) (h3 : k = 3 → 1 ≤ wd ∧ wd ≤ 16) (hm : mk < 18446744073709551616) (h0 : 0 ≤ slot) (h1 : slot ≤ 262144) (w : World) :
    Calls Tryd.prog 79 #[.agg #[.int .u8 k, .int .i64 wd, .int .u64 (mk : Int), .int .i64 n], .int .i64 slot] w fun e w' => e = .returned (.bool (refV k wd mk slot)) ∧ Below w.heap.size w w' := by
  have hu : IntKind.u64.wrap slot = slot := by simp [IntKind.wrap, IntKind.signed, IntKind.bits]; omega
  rcases hk with rfl | rfl | rfl | rfl
  · have H := Lib.hid (bit_and hm slot.toNat)
    go_enter Tryd.func79, Tryd.ntmps79
    go_wp2
    go_ret
    exact ⟨ret_bool (by rw [H.out]; simp [refV]), (Below.refl _ _).alloc (Nat.le_refl _) _⟩
  · go_enter Tryd.func79, Tryd.ntmps79
    go_wp2
    go_ret
    exact ⟨ret_bool (by simp [refV]), (Below.refl _ _).alloc (Nat.le_refl _) _⟩
  · obtain ⟨h4, h5⟩ := h3 rfl
    clear h3
    have l0 : 0 ≤ slot % wd := Int.emod_nonneg _ (by omega)
    have l1 : slot % wd < wd := Int.emod_lt_of_pos _ (by omega)
    have hv : IntKind.u64.wrap (slot % wd) = slot % wd := by generalize slot % wd = z at *; simp [IntKind.wrap, IntKind.signed, IntKind.bits]; omega
    have H := Lib.hid (show (bits .and .u64 ((mk : Int) / 2 ^ (slot % wd).toNat) 1 == 1) = bitV mk (slot % wd).toNat by have h := bit_and hm (slot % wd).toNat; rwa [Nat.min_eq_left (by omega)] at h)
    go_enter Tryd.func79, Tryd.ntmps79
    go_wp2
    go_ret
    exact ⟨ret_bool (by rw [H.out]; simp [refV]), (Below.refl _ _).alloc (Nat.le_refl _) _⟩
  · have H := Lib.hid (bit_and hm slot.toNat)
    go_enter Tryd.func79, Tryd.ntmps79
    go_wp2
    go_ret
    exact ⟨ret_bool (by rw [H.out]; simp [refV]), (Below.refl _ _).alloc (Nat.le_refl _) _⟩

theorem slotsV_bd {k wd : Int} {mk : Nat} {n : Int} (h : ofE k wd mk n = 0) : 0 ≤ slotsV k wd n ∧ slotsV k wd n ≤ 65536 := by
  obtain ⟨h1, h2, h3⟩ := ofE_facts h
  obtain ⟨g1, g2, g3, g4⟩ := okT_facts h1
  unfold slotsV
  split
  · omega
  · split
    · rename_i h5 h6
      have := g3 h6
      refine ⟨Int.mul_nonneg h2.1 (by omega), ?_⟩
      calc n * wd ≤ 4096 * wd := Int.mul_le_mul_of_nonneg_right h2.2 (by omega)
        _ ≤ 65536 := by omega
    · omega

/-- How many slots an object has, or 0. -/
def nS (k wd : Int) (mk : Nat) (n : Int) : Int := if ofE k wd mk n = 0 then slotsV k wd n else 0
/-- How many granules an object has, or 0. -/
def gS (k wd : Int) (mk : Nat) (n : Int) : Int := if ofE k wd mk n = 0 then (slotsV k wd n + 2) / 2 else 0

section
variable (k wd : Int) (mk : Nat) (n : Int) (w : World) (hk : 0 ≤ k ∧ k < 256) (hw : -9223372036854775808 ≤ wd ∧ wd ≤ 9223372036854775807) (hm : mk < 18446744073709551616)
include hk hw hm

set_option maxHeartbeats 1000000 in
theorem kslots_any : Calls Tryd.prog 63 #[.agg #[.int .u8 k, .int .i64 wd, .int .u64 (mk : Int)], .int .i64 n] w fun e w' => e = .returned (.tuple #[.int .i64 (nS k wd mk n), .int .i64 (ofE k wd mk n)]) ∧ Below w.heap.size w w' := by
  have HK := Lib.hid hk
  have HW := Lib.hid hw
  have HM := Lib.hid hm
  clear hk hw hm
  by_cases h : ofE k wd mk n = 0
  · obtain ⟨h1, h2, h3⟩ := ofE_facts h
    obtain ⟨g1, g2, g3, g4⟩ := okT_facts h1
    have HE := Lib.hid h
    have HS := Lib.hid (show nS k wd mk n = slotsV k wd n by simp [nS, h])
    have H2 := Lib.hid h2
    have G1 := Lib.hid g1
    have G2 := Lib.hid g2
    clear h h1 h2 h3 g1 g2 g3 g4
    go_enter Tryd.func63, Tryd.ntmps63
    go_wp2_with fail
    refine (of_ok k wd mk n _ HK.out HW.out HM.out HE.out).mono ?_
    rintro e w1 ⟨rfl, hb⟩
    have hB := bnext (balloc (Below.refl _ w) _) hb
    clear hb
    go_wp2_with fail
    refine (slots_any k wd mk n G1.out G2.out H2.out _).mono ?_
    rintro e w2 ⟨rfl, hb⟩
    have hB2 := bnext (balloc hB _) hb
    clear hb
    go_wp2_with fail
    go_ret2
    rw [HS.out, HE.out]
    exact ⟨rfl, hB2⟩
  · have HE := Lib.hid h
    have HS := Lib.hid (show nS k wd mk n = 0 by simp [nS, h])
    have hne : (ofE k wd mk n != 0) = true := by simpa using h
    clear h
    go_enter Tryd.func63, Tryd.ntmps63
    go_wp2_with fail
    refine (of_no k wd mk n _ HK.out HW.out HM.out HE.out).mono ?_
    rintro e w1 ⟨rfl, hb⟩
    have hB := bnext (balloc (Below.refl _ w) _) hb
    clear hb
    go_wp2_with fail
    go_ret2
    rw [HS.out]
    exact ⟨rfl, balloc hB _⟩

set_option maxHeartbeats 1000000 in
theorem ksize_any : Calls Tryd.prog 73 #[.agg #[.int .u8 k, .int .i64 wd, .int .u64 (mk : Int)], .int .i64 n] w fun e w' => e = .returned (.tuple #[.int .i64 (gS k wd mk n), .int .i64 (ofE k wd mk n)]) ∧ Below w.heap.size w w' := by
  have HK := Lib.hid hk
  have HW := Lib.hid hw
  have HM := Lib.hid hm
  clear hk hw hm
  by_cases h : ofE k wd mk n = 0
  · obtain ⟨h1, h2, h3⟩ := ofE_facts h
    obtain ⟨g1, g2, g3, g4⟩ := okT_facts h1
    obtain ⟨s1, s2⟩ := slotsV_bd h
    have HE := Lib.hid h
    have HS := Lib.hid (show gS k wd mk n = (slotsV k wd n + 2) / 2 by simp [gS, h])
    have H2 := Lib.hid h2
    have G1 := Lib.hid g1
    have G2 := Lib.hid g2
    clear h h1 h2 h3 g1 g2 g3 g4
    go_enter Tryd.func73, Tryd.ntmps73
    go_wp2_with fail
    refine (of_ok k wd mk n _ HK.out HW.out HM.out HE.out).mono ?_
    rintro e w1 ⟨rfl, hb⟩
    have hB := bnext (balloc (Below.refl _ w) _) hb
    clear hb
    go_wp2_with fail
    refine (slots_any k wd mk n G1.out G2.out H2.out _).mono ?_
    rintro e w2 ⟨rfl, hb⟩
    have hB2 := bnext (balloc hB _) hb
    clear hb
    generalize slotsV k wd n = z at *
    go_wp2_with fail
    go_ret2
    rw [HS.out, HE.out]
    exact ⟨rfl, hB2⟩
  · have HE := Lib.hid h
    have HS := Lib.hid (show gS k wd mk n = 0 by simp [gS, h])
    have hne : (ofE k wd mk n != 0) = true := by simpa using h
    clear h
    go_enter Tryd.func73, Tryd.ntmps73
    go_wp2_with fail
    refine (of_no k wd mk n _ HK.out HW.out HM.out HE.out).mono ?_
    rintro e w1 ⟨rfl, hb⟩
    have hB := bnext (balloc (Below.refl _ w) _) hb
    clear hb
    go_wp2_with fail
    go_ret2
    rw [HS.out]
    exact ⟨rfl, balloc hB _⟩
end
end Go.Proofs.YtmjkohjijoddaaaDoor
