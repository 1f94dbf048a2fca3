/- The document's May, Slots, Size, is of layer 5. -/
import Derived.Test.YtmjkohjijoddaaaDoorKindF
namespace Go.Proofs.YtmjkohjijoddaaaDoor
open Go.RowKit
set_option linter.unusedVariables false
set_option linter.unusedSimpArgs false

theorem div_zero_of_bits {mk W : Nat} (hm : mk < 18446744073709551616) (hW : W ≤ 64) (h : ∀ j, W ≤ j → j < 64 → bitV mk j = false) : mk / 2 ^ W = 0 := by
  apply Nat.eq_of_testBit_eq
  intro i
  rw [Nat.testBit_div_two_pow, Nat.zero_testBit]
  by_cases hi : W + i < 64
  · have := h (W + i) (by omega) hi
    rw [Nat.testBit_eq_decide_div_mod_eq, Nat.add_comm i W]
    simpa [bitV] using this
  · rw [Nat.add_comm i W]
    apply Nat.testBit_lt_two_pow
    exact Nat.lt_of_lt_of_le (by omega : mk < 2 ^ 64) (Nat.pow_le_pow_right (by omega) (by omega))
theorem bits_of_div_zero {mk W j : Nat} (h : mk / 2 ^ W = 0) (hj : W ≤ j) : bitV mk j = false := by
  have h1 : mk < 2 ^ W := (Nat.div_eq_zero_iff.1 h).resolve_left (by have := Nat.two_pow_pos W; omega)
  have h2 : mk / 2 ^ j = 0 := Nat.div_eq_of_lt (Nat.lt_of_lt_of_le h1 (Nat.pow_le_pow_right (by omega) hj))
  simp [bitV, h2]

theorem bit_tmod {mk : Nat} (hm : mk < 18446744073709551616) (s : Nat) : (((mk : Int) / 2 ^ min s 64).tmod 2 == 1) = bitV mk s := by
  rw [← bit_mod hm s, shr_nat hm, Int.tmod_eq_emod_of_nonneg (Int.natCast_nonneg _)]

set_option maxHeartbeats 2000000 in
theorem rmay_any (k wd : Int) (mk : Nat) (w : World) (hk : 0 ≤ k ∧ k < 256) (hw : -9223372036854775808 ≤ wd ∧ wd ≤ 9223372036854775807) (hm : mk < 18446744073709551616) :
    Calls Tryd.prog 74 #[.agg #[.int .u8 k, .int .i64 wd, .int .u64 (mk : Int)]] w fun e w' => e = .returned (.bool (okT k wd mk)) ∧ Below w.heap.size w w' := by
  by_cases hr : (k = 1 ∧ 0 ≤ wd ∧ wd ≤ 64) ∨ (k = 3 ∧ 1 ≤ wd ∧ wd ≤ 16) ∨ (k = 2 ∧ wd = 0) ∨ (k = 4 ∧ wd = 0)
  · have hw0 : 0 ≤ wd ∧ wd ≤ 64 := by omega
    obtain ⟨W, rfl⟩ := Int.eq_ofNat_of_zero_le hw0.1
    have HO : Hid (okT k (W : Int) mk = (decide (64 ≤ W) || mk / 2 ^ W == 0)) := Lib.hid (by
      have h1 : ((k == 1 && decide (0 ≤ (W : Int)) && decide ((W : Int) ≤ 64)) || (k == 3 && decide (1 ≤ (W : Int)) && decide ((W : Int) ≤ 16)) || ((k == 2 || k == 4) && (W : Int) == 0)) = true := by simp; omega
      unfold okT
      rw [h1, Bool.true_and, Int.toNat_natCast]
      rw [Bool.eq_iff_iff]
      simp only [Bool.or_eq_true, decide_eq_true_eq, beq_iff_eq]
      have e : (mk : Int) / 2 ^ W = ((mk / 2 ^ W : Nat) : Int) := by simp
      rw [e]
      omega)
    have HM := Lib.hid hm
    have hW : W ≤ 64 := by omega
    clear hk hw hm hw0
    have ht : k = 2 ∨ k = 4 → ((W : Int) != 0) = false := fun h => by simp; omega
    rcases hr with ⟨rfl, h1, h2⟩ | ⟨rfl, h1, h2⟩ | ⟨rfl, h1⟩ | ⟨rfl, h1⟩
    all_goals first | (have t0 := ht (by omega); clear ht h1) | clear ht
    all_goals
      go_enter Tryd.func74, Tryd.ntmps74
      go_wp2_with fail
      go_loop [4] (fun i => ∃ c : Nat, W ≤ c ∧ c ≤ 64 ∧ i = .int .i64 (c : Int) ∧ Hid (∀ j, W ≤ j → j < c → bitV mk j = false)) (fun i => 64 - (intOf i).toNat)
      case atStart => exact ⟨W, by omega, by omega, rfl, Lib.hid fun j h1 h2 => by omega⟩
      case round =>
        obtain ⟨c, hc1, hc2, rfl, HB⟩ := hrel
        by_cases hlt : c < 64
        · have hbm := bit_tmod HM.out c
          rw [Nat.min_eq_left (by omega)] at hbm
          have hu : IntKind.u64.wrap (c : Int) = (c : Int) := by simp [IntKind.wrap, IntKind.signed, IntKind.bits]; omega
          cases hb : bitV mk c
          · rw [hb] at hbm
            have HBC := Lib.hid hb
            clear hb
            go_wp2_with fail
            go_round
            case rel => exact ⟨c + 1, by omega, by omega, by go_num, Lib.hid fun j h1 h2 => by
              rcases Nat.lt_or_ge j c with h | h
              · exact HB.out j h1 h
              · obtain rfl : j = c := by omega
                exact HBC.out⟩
            case measure => simp [intOf]; omega
          · rw [hb] at hbm
            have HBC := Lib.hid hb
            clear hb
            go_wp2_with fail
            go_ret
            refine ⟨ret_bool ?_, (Below.refl _ _).alloc (Nat.le_refl _) _⟩
            rw [HO.out]
            symm
            rw [Bool.or_eq_false_iff]
            refine ⟨by simp; omega, ?_⟩
            rw [beq_eq_false_iff_ne]
            intro h0
            have := bits_of_div_zero h0 hc1
            rw [HBC.out] at this
            cases this
        · go_wp2_with fail
          go_ret
          refine ⟨ret_bool ?_, (Below.refl _ _).alloc (Nat.le_refl _) _⟩
          rw [HO.out]
          symm
          rw [Bool.or_eq_true]
          right
          rw [beq_iff_eq]
          exact div_zero_of_bits HM.out (by omega) fun j h1 h2 => HB.out j h1 (by omega)
  · have HO : Hid (okT k wd mk = false) := Lib.hid (by
      have h1 : ((k == 1 && decide (0 ≤ wd) && decide (wd ≤ 64)) || (k == 3 && decide (1 ≤ wd) && decide (wd ≤ 16)) || ((k == 2 || k == 4) && wd == 0)) = false := by
        rw [Bool.eq_false_iff]; intro h; simp at h; omega
      unfold okT
      rw [h1, Bool.false_and])
    have hcs : (k = 1 ∧ wd < 0) ∨ (k = 1 ∧ 64 < wd) ∨ (k = 3 ∧ wd < 1) ∨ (k = 3 ∧ 16 < wd) ∨ (k = 2 ∧ wd ≠ 0) ∨ (k = 4 ∧ wd ≠ 0) ∨ (k ≠ 1 ∧ k ≠ 2 ∧ k ≠ 3 ∧ k ≠ 4) := by omega
    clear hr hk hw
    have hq : ∀ x : Int, wd ≠ x → (wd != x) = true := fun x h => by simpa using h
    have hq2 : ∀ x : Int, k ≠ x → (k == x) = false := fun x h => by simpa using h
    rcases hcs with ⟨rfl, h1⟩ | ⟨rfl, h1⟩ | ⟨rfl, h1⟩ | ⟨rfl, h1⟩ | ⟨rfl, h1⟩ | ⟨rfl, h1⟩ | ⟨h1, h2, h3, h4⟩
    all_goals first | (have t1 := hq2 _ h1; have t2 := hq2 _ h2; have t3 := hq2 _ h3; have t4 := hq2 _ h4; clear h1 h2 h3 h4) | (have t0 := hq _ h1; clear h1) | skip
    all_goals clear hq hq2
    all_goals
      go_enter Tryd.func74, Tryd.ntmps74
      go_wp2_with fail
      go_ret
      exact ⟨ret_bool HO.out.symm, (Below.refl _ _).alloc (Nat.le_refl _) _⟩
end Go.Proofs.YtmjkohjijoddaaaDoor
