/- The document's Slots, Size, is, Ref, Refs of layer 5. -/
import Derived.Test.YtmjkohjijoddaaaDoorRefA
namespace Go.Proofs.YtmjkohjijoddaaaDoor
open Go.RowKit
set_option linter.unusedVariables false
set_option linter.unusedSimpArgs false

section
variable (k wd : Int) (mk : Nat) (n : Int) (w : World) (hk : 0 ≤ k ∧ k < 256) (hw : -9223372036854775808 ≤ wd ∧ wd ≤ 9223372036854775807) (hm : mk < 18446744073709551616)
include hk hw hm

set_option maxHeartbeats 1000000 in
theorem rslots_any : Calls Tryd.prog 64 #[.agg #[.int .u8 k, .int .i64 wd, .int .u64 (mk : Int)], .int .i64 n] w fun e w' => e = .returned (.tuple #[.int .i64 (nS k wd mk n), .int .i64 (ofE k wd mk n)]) ∧ Below w.heap.size w w' := by
  have HK := Lib.hid hk
  have HW := Lib.hid hw
  have HM := Lib.hid hm
  clear hk hw hm
  by_cases h : ofE k wd mk n = 0
  · obtain ⟨h1, h2, h3⟩ := ofE_facts h
    obtain ⟨g1, g2, g3, g4⟩ := okT_facts h1
    obtain ⟨s1, s2⟩ := slotsV_bd h
    have HS := Lib.hid (show nS k wd mk n = slotsV k wd n by simp [nS, h])
    have HE := Lib.hid h
    have H1 := Lib.hid h1
    have m1 : k = 3 → wrap64 (n * wd) = n * wd := fun e => by
      have := mul_bd g2 h2
      generalize n * wd = z at *
      simp [wrap64]; omega
    clear h h1
    obtain ⟨l1, l2⟩ := h2
    clear g4
    rcases g1 with rfl | rfl | rfl | rfl
    · obtain rfl := h3 rfl
      clear m1 h3 g3
      go_enter Tryd.func64, Tryd.ntmps64
      go_wp2_with fail
      refine (rmay_any _ _ _ _ HK.out HW.out HM.out).mono ?_
      rintro e w1 ⟨rfl, hb⟩
      rw [H1.out]
      have b1 := (Blk.new w 72 #[.int .u8 1, .int .i64 wd, .int .u64 (mk : Int)]).nx hb
      obtain ⟨c0, c1, c2⟩ := b1.c3
      have hB := bnext (balloc (Below.refl _ w) _) hb
      clear hb b1
      go_wp2_with fail
      go_ret2
      rw [HS.out, HE.out]
      exact ⟨rfl, hB⟩
    · clear m1 h3 g3
      go_enter Tryd.func64, Tryd.ntmps64
      go_wp2_with fail
      refine (rmay_any _ _ _ _ HK.out HW.out HM.out).mono ?_
      rintro e w1 ⟨rfl, hb⟩
      rw [H1.out]
      have b1 := (Blk.new w 72 #[.int .u8 2, .int .i64 wd, .int .u64 (mk : Int)]).nx hb
      obtain ⟨c0, c1, c2⟩ := b1.c3
      have hB := bnext (balloc (Below.refl _ w) _) hb
      clear hb b1
      go_wp2_with fail
      go_ret2
      rw [HS.out, HE.out]
      exact ⟨rfl, hB⟩
    · have m2 := m1 rfl
      have M2 := Lib.hid m2
      have hp := mul_bd g2 ⟨l1, l2⟩
      obtain ⟨p1, p2⟩ := hp
      clear m1 h3 g3 m2
      go_enter Tryd.func64, Tryd.ntmps64
      go_wp2_with fail
      refine (rmay_any _ _ _ _ HK.out HW.out HM.out).mono ?_
      rintro e w1 ⟨rfl, hb⟩
      rw [H1.out]
      have b1 := (Blk.new w 72 #[.int .u8 3, .int .i64 wd, .int .u64 (mk : Int)]).nx hb
      obtain ⟨c0, c1, c2⟩ := b1.c3
      have hB := bnext (balloc (Below.refl _ w) _) hb
      clear hb b1
      go_wp2_with fail
      go_ret2
      rw [HS.out, HE.out]
      exact ⟨by simp [slotsV, M2.out], hB⟩
    · clear m1 h3 g3
      go_enter Tryd.func64, Tryd.ntmps64
      go_wp2_with fail
      refine (rmay_any _ _ _ _ HK.out HW.out HM.out).mono ?_
      rintro e w1 ⟨rfl, hb⟩
      rw [H1.out]
      have b1 := (Blk.new w 72 #[.int .u8 4, .int .i64 wd, .int .u64 (mk : Int)]).nx hb
      obtain ⟨c0, c1, c2⟩ := b1.c3
      have hB := bnext (balloc (Below.refl _ w) _) hb
      clear hb b1
      go_wp2_with fail
      go_ret2
      rw [HS.out, HE.out]
      exact ⟨rfl, hB⟩
  · have HS := Lib.hid (show nS k wd mk n = 0 by simp [nS, h])
    cases ho : okT k wd mk
    · have HE := Lib.hid (show ofE k wd mk n = 2 by simp [ofE, ho])
      have HO := Lib.hid ho
      clear h ho
      go_enter Tryd.func64, Tryd.ntmps64
      go_wp2_with fail
      refine (rmay_any _ _ _ _ HK.out HW.out HM.out).mono ?_
      rintro e w1 ⟨rfl, hb⟩
      rw [HO.out]
      have hB := bnext (balloc (Below.refl _ w) _) hb
      clear hb
      go_wp2_with fail
      go_ret2
      rw [HS.out, HE.out]
      exact ⟨rfl, hB⟩
    · have HO := Lib.hid ho
      have hcs : (n < 0 ∧ ofE k wd mk n = 2) ∨ (0 ≤ n ∧ k = 1 ∧ n ≠ 0 ∧ ofE k wd mk n = 2) ∨ (4096 < n ∧ k ≠ 1 ∧ ofE k wd mk n = 5) := by
        by_cases a1 : n < 0
        · exact .inl ⟨a1, by simp [ofE, a1]⟩
        · by_cases a2 : k = 1
          · by_cases a3 : n = 0
            · exact absurd (by subst a2 a3; simp [ofE, ho]) h
            · exact .inr (.inl ⟨by omega, a2, a3, by simp [ofE, a2, a3]⟩)
          · by_cases a3 : 4096 < n
            · exact .inr (.inr ⟨a3, a2, by simp [ofE, ho, a1, a2, a3]⟩)
            · exact absurd (by simp [ofE, ho, a1, a2, a3]) h
      clear h ho
      rcases hcs with ⟨h1, h2⟩ | ⟨h0, h1, h3, h2⟩ | ⟨h1, h3, h2⟩
      · have HE := Lib.hid h2
        clear h2
        go_enter Tryd.func64, Tryd.ntmps64
        go_wp2_with fail
        refine (rmay_any _ _ _ _ HK.out HW.out HM.out).mono ?_
        rintro e w1 ⟨rfl, hb⟩
        rw [HO.out]
        have hB := bnext (balloc (Below.refl _ w) _) hb
        clear hb
        go_wp2_with fail
        go_ret2
        rw [HS.out, HE.out]
        exact ⟨rfl, hB⟩
      · have HE := Lib.hid h2
        subst h1
        have t1 : (n != 0) = true := by simpa using h3
        clear h2
        go_enter Tryd.func64, Tryd.ntmps64
        go_wp2_with fail
        refine (rmay_any _ _ _ _ HK.out HW.out HM.out).mono ?_
        rintro e w1 ⟨rfl, hb⟩
        rw [HO.out]
        have b1 := (Blk.new w 72 #[.int .u8 1, .int .i64 wd, .int .u64 (mk : Int)]).nx hb
        obtain ⟨c0, c1, c2⟩ := b1.c3
        have hB := bnext (balloc (Below.refl _ w) _) hb
        clear hb b1
        go_wp2_with fail
        go_ret2
        rw [HS.out, HE.out]
        exact ⟨rfl, hB⟩
      · have HE := Lib.hid h2
        have t1 : (k == 1) = false := by simpa using h3
        clear h2 h3
        go_enter Tryd.func64, Tryd.ntmps64
        go_wp2_with fail
        refine (rmay_any _ _ _ _ HK.out HW.out HM.out).mono ?_
        rintro e w1 ⟨rfl, hb⟩
        rw [HO.out]
        have b1 := (Blk.new w 72 #[.int .u8 k, .int .i64 wd, .int .u64 (mk : Int)]).nx hb
        obtain ⟨c0, c1, c2⟩ := b1.c3
        have hB := bnext (balloc (Below.refl _ w) _) hb
        clear hb b1
        go_wp2_with fail
        go_ret2
        rw [HS.out, HE.out]
        exact ⟨rfl, hB⟩

set_option maxHeartbeats 1000000 in
theorem rsize_any : Calls Tryd.prog 75 #[.agg #[.int .u8 k, .int .i64 wd, .int .u64 (mk : Int)], .int .i64 n] w fun e w' => e = .returned (.tuple #[.int .i64 (gS k wd mk n), .int .i64 (ofE k wd mk n)]) ∧ Below w.heap.size w w' := by
  by_cases h : ofE k wd mk n = 0
  · obtain ⟨s1, s2⟩ := slotsV_bd h
    have HS := Lib.hid (show gS k wd mk n = (slotsV k wd n + 2) / 2 by simp [gS, h])
    have HN := Lib.hid (show nS k wd mk n = slotsV k wd n by simp [nS, h])
    have HE := Lib.hid h
    have HC := Lib.hid (rslots_any k wd mk n (w.alloc (.cells #[.int .u8 k, .int .i64 wd, .int .u64 (mk : Int)] 72)) hk hw hm)
    clear h hk hw hm
    go_enter Tryd.func75, Tryd.ntmps75
    go_wp2_with fail
    refine HC.out.mono ?_
    rintro e w1 ⟨rfl, hb⟩
    rw [HE.out, HN.out]
    have hB := bnext (balloc (Below.refl _ w) _) hb
    clear hb
    generalize slotsV k wd n = z at *
    go_wp2_with fail
    go_loop [8] (fun g => ∃ c : Nat, (c : Int) ≤ (z + 2) / 2 ∧ g = .int .i64 (c : Int)) (fun g => 100000 - (intOf g).toNat)
    case atStart => exact ⟨0, by omega, rfl⟩
    case round =>
      obtain ⟨c, hc, rfl⟩ := hrel
      by_cases hlt : (c : Int) * 2 < z + 1
      · go_wp2_with fail
        go_round
        case rel => exact ⟨c + 1, by omega, by go_num⟩
        case measure => simp [intOf]; omega
      · go_wp2_with fail
        go_ret2
        rw [HS.out, HE.out, show (z + 2) / 2 = (c : Int) by omega]
        exact ⟨rfl, hB⟩
  · have HS := Lib.hid (show gS k wd mk n = 0 by simp [gS, h])
    have HC := Lib.hid (rslots_any k wd mk n (w.alloc (.cells #[.int .u8 k, .int .i64 wd, .int .u64 (mk : Int)] 72)) hk hw hm)
    have hne : (ofE k wd mk n != 0) = true := by simpa using h
    clear h hk hw hm
    go_enter Tryd.func75, Tryd.ntmps75
    go_wp2_with fail
    refine HC.out.mono ?_
    rintro e w1 ⟨rfl, hb⟩
    have hB := bnext (balloc (Below.refl _ w) _) hb
    clear hb
    go_wp2_with fail
    go_ret2
    rw [HS.out]
    exact ⟨rfl, hB⟩
end
end Go.Proofs.YtmjkohjijoddaaaDoor
