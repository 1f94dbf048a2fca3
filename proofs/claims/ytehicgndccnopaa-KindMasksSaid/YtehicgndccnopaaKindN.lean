/- The law KindMasks: the walk. -/
import Derived.Test.YtehicgndccnopaaKindP
import Derived.IntWalk
namespace Go.Proofs.Ytehicgndccnopaa
open Go.RowKit
set_option linter.unusedVariables false
set_option linter.unusedSimpArgs false

/-- What KindMasks wants. -/
def wantM (k : Int) (mk : Nat) (n slots : Int) : Int := if k = 3 then (cnt mk 64 : Int) * n else if k = 2 then slots else if k = 4 then 0 else (cnt mk 64 : Int)
theorem wantM_eq {k wd : Int} {mk : Nat} {n : Int} (h : ofE k wd mk n = 0) : ((refsR k wd mk n).length : Int) = wantM k mk n (slotsV k wd n) := by
  obtain ⟨h1, h2, h3⟩ := ofE_facts h
  obtain ⟨g1, g2, g3, g4⟩ := okT_facts h1
  obtain ⟨s1, s2⟩ := slotsV_bd h
  obtain ⟨W, rfl⟩ := Int.eq_ofNat_of_zero_le g2.1
  obtain ⟨m, rfl⟩ := Int.eq_ofNat_of_zero_le h2.1
  have hb := okT_bits h1
  have hc := cnt_64 (by omega) hb
  rw [refsR, if_pos h]
  rcases g1 with rfl | rfl | rfl | rfl
  · rw [len_fixed]
    simp [wantM, slotsV, hc]
  · rw [len_refs]
    simp [wantM, slotsV]
  · have e : (slotsV 3 (W : Int) (m : Int)).toNat = m * W := by simp only [slotsV]; rw [if_neg (by omega), if_pos trivial, ← Int.natCast_mul, Int.toNat_natCast]
    rw [e, len_structs]
    simp only [wantM, if_true, hc]
    rw [Int.natCast_mul, Int.mul_comm]
  · have := okT_raw h1
    subst this
    rw [len_raw]
    simp [wantM]

theorem tmod_bit {mk c : Nat} (hm : mk < 18446744073709551616) (hc : c ≤ 64) : ((mk : Int) / 2 ^ c).tmod 2 = if bitV mk c then 1 else 0 := by
  have h := bit_tmod hm c
  rw [Nat.min_eq_left hc] at h
  have e : (mk : Int) / 2 ^ c = ((mk / 2 ^ c : Nat) : Int) := by simp
  have h2 : 0 ≤ ((mk : Int) / 2 ^ c).tmod 2 ∧ ((mk : Int) / 2 ^ c).tmod 2 < 2 := by
    rw [e, Int.tmod_eq_emod_of_nonneg (Int.natCast_nonneg _)]; omega
  generalize ((mk : Int) / 2 ^ c).tmod 2 = z at *
  rw [← h]
  by_cases hz : z = 1
  · simp [hz]
  · simp [hz]; omega

set_option maxHeartbeats 4000000 in
theorem kindMasks_1 (wd : Int) (mk : Nat) (n : Int) (hk : (0 : Int) ≤ 1 ∧ (1 : Int) < 256) (hw : -9223372036854775808 ≤ wd ∧ wd ≤ 9223372036854775807) (hm : mk < 18446744073709551616) (h : ofE 1 wd mk n = 0) (w : World) :
    Calls Try.prog 4 #[.agg #[.int .u8 1, .int .i64 wd, .int .u64 (mk : Int)], .int .i64 n] w fun e w' => e = .returned (.bool true) ∧ Below w.heap.size w w' := by
  have HK := Lib.hid hk
  have HW := Lib.hid hw
  have HM := Lib.hid hm
  have HE := Lib.hid h
  obtain ⟨s1, s2⟩ := slotsV_bd h
  obtain ⟨h1, h2, h3⟩ := ofE_facts h
  have hc64 := cnt_le mk 64
  have HWM := Lib.hid (wantM_eq h)
  have HLE := Lib.hid (refsR_le 1 wd mk n)
  have HNS := Lib.hid (show nS 1 wd mk n = slotsV 1 wd n by simp [nS, h])
  have b1 := Blk.new w 24 #[.int .u8 1, .int .i64 wd, .int .u64 (mk : Int)]
  have B1 := balloc (Below.refl _ w) (.cells #[.int .u8 1, .int .i64 wd, .int .u64 (mk : Int)] 24)
  have HX : Hid (∀ i, i < (refsR 1 wd mk n).length → 0 ≤ (refsR 1 wd mk n).getD i 0 ∧ (refsR 1 wd mk n).getD i 0 < slotsV 1 wd n) := Lib.hid (fun i hi => by
    rw [refsR, if_pos h] at hi ⊢
    have := refsL_mem (getD_mem hi)
    omega)
  have HY : Hid (∀ i, i + 1 < (refsR 1 wd mk n).length → (refsR 1 wd mk n).getD i 0 < (refsR 1 wd mk n).getD (i + 1) 0) := Lib.hid (fun i hi => by
    rw [refsR, if_pos h] at hi ⊢
    exact refsL_lt hi)
  have hmul : 0 ≤ (cnt mk 64 : Int) * n ∧ (cnt mk 64 : Int) * n ≤ 262144 := by
    refine ⟨Int.mul_nonneg (by omega) h2.1, ?_⟩
    calc (cnt mk 64 : Int) * n ≤ 64 * n := Int.mul_le_mul_of_nonneg_right (by omega) h2.1
      _ ≤ 262144 := by omega
  have hwr : wrap64 ((cnt mk 64 : Int) * n) = (cnt mk 64 : Int) * n := by generalize (cnt mk 64 : Int) * n = z at *; simp [wrap64]; omega
  clear hk hw hm h h1 h2 h3
  generalize hLL : refsR 1 wd mk n = L at *
  have HLL := Lib.hid hLL
  generalize hSS : slotsV 1 wd n = S at *
  have HSS := Lib.hid hSS
  clear hLL hSS
  have HQ : Hid (∀ N : Nat, L.length = N → ((N : Int) == (cnt mk 64 : Int)) = true) := Lib.hid fun N hN => by rw [← hN, HWM.out]; simp [wantM]
  clear hmul hwr
  go_enter Try.func4, Try.ntmps4
  go_wp2_with fail
  refine (krefs_any 1 wd mk n _ HK.out HW.out HM.out).mono ?_
  rintro e w1 ⟨A, N, cc, rfl, hr, hcc, hb1⟩
  rw [HE.out]
  rw [HLL.out] at hr
  have hN : L.length = N := by simpa using hr.1
  have HN := Lib.hid hN
  have hqn := HQ.out N hN
  have hNle : N ≤ 65536 := by have := HLE.out; omega
  clear hN
  have b2 := b1.nx hb1
  have B2 := bnext B1 hb1
  have R1 := Lib.hid hr
  obtain ⟨c0, c1, c2⟩ := b2.c3
  clear hb1 hr
  go_wp2_with fail
  refine (kslots_any 1 wd mk n _ HK.out HW.out HM.out).mono ?_
  rintro e w2 ⟨rfl, hb2⟩
  rw [HE.out, HNS.out]
  have b3 := b2.nx hb2
  have B3 := bnext B2 hb2
  have R2 := Lib.hid ((R1.out.below hb2).more hb2.size)
  clear hb2 c0 c1 c2 b2 B2 R1
  obtain ⟨c0, c1, c2⟩ := b3.c3
  go_wp2_with fail
  go_loop [9, 10] (fun bs i => ∃ c : Nat, c ≤ 64 ∧ i = .int .i64 (c : Int) ∧ bs = .int .i64 (cnt mk c : Int)) (fun _ i => 64 - (intOf i).toNat)
  case atStart => exact ⟨0, by omega, rfl, rfl⟩
  case round =>
    obtain ⟨c, hc, rfl, rfl⟩ := hrel
    have hcl := cnt_le mk c
    by_cases hlt : c < 64
    · have hu : IntKind.u64.wrap (c : Int) = (c : Int) := by simp [IntKind.wrap, IntKind.signed, IntKind.bits]; omega
      cases hb : bitV mk c
      · have hbm := tmod_bit HM.out (by omega : c ≤ 64)
        rw [hb] at hbm
        have HB := Lib.hid (cnt_no hb)
        clear hb
        go_wp2_with fail
        go_round
        case rel => exact ⟨c + 1, by omega, by go_num, by rw [HB.out]⟩
        case measure => simp [intOf]; omega
      · have hbm := tmod_bit HM.out (by omega : c ≤ 64)
        rw [hb] at hbm
        have HB := Lib.hid (cnt_yes hb)
        clear hb
        go_wp2_with fail
        go_round
        case rel => exact ⟨c + 1, by omega, by go_num, by rw [HB.out]; go_num⟩
        case measure => simp [intOf]; omega
    · obtain rfl : c = 64 := by omega
      obtain ⟨b0, o0, HA⟩ : ∃ b0 o0, Hid (∀ i, i < N → A = some ⟨b0, o0, none⟩ ∧ b0 < w2.heap.size ∧ ∀ j, j < N → w2.cell? ⟨b0, o0 + j, none⟩ = some (.int .i64 (L.getD j 0))) := by
        rcases Nat.eq_zero_or_pos N with h0 | h0
        · exact ⟨0, 0, fun i hi => by omega⟩
        · obtain ⟨b0, o0, rfl, hb0, hc0⟩ := R2.out.spot h0
          refine ⟨b0, o0, Lib.hid fun i hi => ⟨rfl, hb0, fun j hj => hc0 j _ ?_⟩⟩
          simp [List.getD, HN.out, hj]
      go_wp2_with fail
      go_loopw [12] (fun i wr => ∃ c : Nat, c ≤ N ∧ i = .int .i64 (c : Int) ∧ Below w2.heap.size w2 wr) (fun i _ => N - (intOf i).toNat)
      case atStart => exact ⟨0, by omega, rfl, Below.refl _ _⟩
      case round =>
        obtain ⟨c, hc, rfl, hbl⟩ := hrel
        by_cases hlt : c < N
        · obtain ⟨rfl, hb0, hcell⟩ := HA.out c hlt
          have hlt' : (c : Int) < (N : Int) := by omega
          have h0 : (0 : Int) ≤ (c : Int) := by omega
          have k1 := (hbl.cell (p := ⟨b0, o0 + c, none⟩) hb0).trans (hcell c hlt)
          have hx := HX.out c (by have := HN.out; omega)
          rcases Nat.eq_zero_or_pos c with h00 | h00
          · subst h00
            rw [Nat.add_zero] at k1
            generalize L.getD 0 0 = x at *
            clear hcell
            have t1 : decide (x < 0) = false := by simp; omega
            have t2 : decide (S ≤ x) = false := by simp; omega
            go_wp2_with fail
            go_quiet (fail)
            go_wp2_with fail
            go_roundw
            case rel => exact ⟨1, by omega, rfl, below_drewN hbl _⟩
            case measure => simp [intOf]; omega
          · have k2 := (hbl.cell (p := ⟨b0, o0 + (c - 1), none⟩) hb0).trans (hcell (c - 1) (by omega))
            have hy := HY.out (c - 1) (by have := HN.out; omega)
            rw [show c - 1 + 1 = c by omega] at hy
            generalize L.getD c 0 = x at *
            generalize L.getD (c - 1) 0 = y at *
            clear hcell
            have t1 : decide (x < 0) = false := by simp; omega
            have t2 : decide (S ≤ x) = false := by simp; omega
            have t3 : decide (x ≤ y) = false := by simp; omega
            have t4 : decide (0 < (c : Int)) = true := by simp; omega
            have u1 : IntKind.i64.wrap ((c : Int) - 1) = (c : Int) - 1 := IntWalk.i64_in _ (by omega)
            have u2 : 0 ≤ (c : Int) - 1 := by omega
            have u3 : ((c : Int) - 1).toNat = c - 1 := by omega
            have u4 : (c : Int) - 1 < (N : Int) := by omega
            go_wp2_with fail
            go_quiet (fail)
            clear u1 u2 u3 u4
            go_wp2_with fail
            go_roundw
            case rel => exact ⟨c + 1, by omega, by go_num, below_drewN hbl _⟩
            case measure => simp [intOf]; omega
        · go_wp2_with fail
          refine (alive05 _).mono ?_
          rintro e w7 ⟨rfl, hb7⟩
          have B8 := bnext (bnext B3 hbl) hb7
          go_wp2_with fail
          go_ret
          exact ⟨rfl, B8⟩

set_option maxHeartbeats 4000000 in
theorem kindMasks_2 (wd : Int) (mk : Nat) (n : Int) (hk : (0 : Int) ≤ 2 ∧ (2 : Int) < 256) (hw : -9223372036854775808 ≤ wd ∧ wd ≤ 9223372036854775807) (hm : mk < 18446744073709551616) (h : ofE 2 wd mk n = 0) (w : World) :
    Calls Try.prog 4 #[.agg #[.int .u8 2, .int .i64 wd, .int .u64 (mk : Int)], .int .i64 n] w fun e w' => e = .returned (.bool true) ∧ Below w.heap.size w w' := by
  have HK := Lib.hid hk
  have HW := Lib.hid hw
  have HM := Lib.hid hm
  have HE := Lib.hid h
  obtain ⟨s1, s2⟩ := slotsV_bd h
  obtain ⟨h1, h2, h3⟩ := ofE_facts h
  have hc64 := cnt_le mk 64
  have HWM := Lib.hid (wantM_eq h)
  have HLE := Lib.hid (refsR_le 2 wd mk n)
  have HNS := Lib.hid (show nS 2 wd mk n = slotsV 2 wd n by simp [nS, h])
  have b1 := Blk.new w 24 #[.int .u8 2, .int .i64 wd, .int .u64 (mk : Int)]
  have B1 := balloc (Below.refl _ w) (.cells #[.int .u8 2, .int .i64 wd, .int .u64 (mk : Int)] 24)
  have HX : Hid (∀ i, i < (refsR 2 wd mk n).length → 0 ≤ (refsR 2 wd mk n).getD i 0 ∧ (refsR 2 wd mk n).getD i 0 < slotsV 2 wd n) := Lib.hid (fun i hi => by
    rw [refsR, if_pos h] at hi ⊢
    have := refsL_mem (getD_mem hi)
    omega)
  have HY : Hid (∀ i, i + 1 < (refsR 2 wd mk n).length → (refsR 2 wd mk n).getD i 0 < (refsR 2 wd mk n).getD (i + 1) 0) := Lib.hid (fun i hi => by
    rw [refsR, if_pos h] at hi ⊢
    exact refsL_lt hi)
  have hmul : 0 ≤ (cnt mk 64 : Int) * n ∧ (cnt mk 64 : Int) * n ≤ 262144 := by
    refine ⟨Int.mul_nonneg (by omega) h2.1, ?_⟩
    calc (cnt mk 64 : Int) * n ≤ 64 * n := Int.mul_le_mul_of_nonneg_right (by omega) h2.1
      _ ≤ 262144 := by omega
  have hwr : wrap64 ((cnt mk 64 : Int) * n) = (cnt mk 64 : Int) * n := by generalize (cnt mk 64 : Int) * n = z at *; simp [wrap64]; omega
  clear hk hw hm h h1 h2 h3
  generalize hLL : refsR 2 wd mk n = L at *
  have HLL := Lib.hid hLL
  generalize hSS : slotsV 2 wd n = S at *
  have HSS := Lib.hid hSS
  clear hLL hSS
  have HQ : Hid (∀ N : Nat, L.length = N → ((N : Int) == S) = true) := Lib.hid fun N hN => by rw [← hN, HWM.out]; simp [wantM]
  clear hmul hwr
  go_enter Try.func4, Try.ntmps4
  go_wp2_with fail
  refine (krefs_any 2 wd mk n _ HK.out HW.out HM.out).mono ?_
  rintro e w1 ⟨A, N, cc, rfl, hr, hcc, hb1⟩
  rw [HE.out]
  rw [HLL.out] at hr
  have hN : L.length = N := by simpa using hr.1
  have HN := Lib.hid hN
  have hqn := HQ.out N hN
  have hNle : N ≤ 65536 := by have := HLE.out; omega
  clear hN
  have b2 := b1.nx hb1
  have B2 := bnext B1 hb1
  have R1 := Lib.hid hr
  obtain ⟨c0, c1, c2⟩ := b2.c3
  clear hb1 hr
  go_wp2_with fail
  refine (kslots_any 2 wd mk n _ HK.out HW.out HM.out).mono ?_
  rintro e w2 ⟨rfl, hb2⟩
  rw [HE.out, HNS.out]
  have b3 := b2.nx hb2
  have B3 := bnext B2 hb2
  have R2 := Lib.hid ((R1.out.below hb2).more hb2.size)
  clear hb2 c0 c1 c2 b2 B2 R1
  obtain ⟨c0, c1, c2⟩ := b3.c3
  go_wp2_with fail
  go_loop [9, 10] (fun bs i => ∃ c : Nat, c ≤ 64 ∧ i = .int .i64 (c : Int) ∧ bs = .int .i64 (cnt mk c : Int)) (fun _ i => 64 - (intOf i).toNat)
  case atStart => exact ⟨0, by omega, rfl, rfl⟩
  case round =>
    obtain ⟨c, hc, rfl, rfl⟩ := hrel
    have hcl := cnt_le mk c
    by_cases hlt : c < 64
    · have hu : IntKind.u64.wrap (c : Int) = (c : Int) := by simp [IntKind.wrap, IntKind.signed, IntKind.bits]; omega
      cases hb : bitV mk c
      · have hbm := tmod_bit HM.out (by omega : c ≤ 64)
        rw [hb] at hbm
        have HB := Lib.hid (cnt_no hb)
        clear hb
        go_wp2_with fail
        go_round
        case rel => exact ⟨c + 1, by omega, by go_num, by rw [HB.out]⟩
        case measure => simp [intOf]; omega
      · have hbm := tmod_bit HM.out (by omega : c ≤ 64)
        rw [hb] at hbm
        have HB := Lib.hid (cnt_yes hb)
        clear hb
        go_wp2_with fail
        go_round
        case rel => exact ⟨c + 1, by omega, by go_num, by rw [HB.out]; go_num⟩
        case measure => simp [intOf]; omega
    · obtain rfl : c = 64 := by omega
      obtain ⟨b0, o0, HA⟩ : ∃ b0 o0, Hid (∀ i, i < N → A = some ⟨b0, o0, none⟩ ∧ b0 < w2.heap.size ∧ ∀ j, j < N → w2.cell? ⟨b0, o0 + j, none⟩ = some (.int .i64 (L.getD j 0))) := by
        rcases Nat.eq_zero_or_pos N with h0 | h0
        · exact ⟨0, 0, fun i hi => by omega⟩
        · obtain ⟨b0, o0, rfl, hb0, hc0⟩ := R2.out.spot h0
          refine ⟨b0, o0, Lib.hid fun i hi => ⟨rfl, hb0, fun j hj => hc0 j _ ?_⟩⟩
          simp [List.getD, HN.out, hj]
      go_wp2_with fail
      go_loopw [12] (fun i wr => ∃ c : Nat, c ≤ N ∧ i = .int .i64 (c : Int) ∧ Below w2.heap.size w2 wr) (fun i _ => N - (intOf i).toNat)
      case atStart => exact ⟨0, by omega, rfl, Below.refl _ _⟩
      case round =>
        obtain ⟨c, hc, rfl, hbl⟩ := hrel
        by_cases hlt : c < N
        · obtain ⟨rfl, hb0, hcell⟩ := HA.out c hlt
          have hlt' : (c : Int) < (N : Int) := by omega
          have h0 : (0 : Int) ≤ (c : Int) := by omega
          have k1 := (hbl.cell (p := ⟨b0, o0 + c, none⟩) hb0).trans (hcell c hlt)
          have hx := HX.out c (by have := HN.out; omega)
          rcases Nat.eq_zero_or_pos c with h00 | h00
          · subst h00
            rw [Nat.add_zero] at k1
            generalize L.getD 0 0 = x at *
            clear hcell
            have t1 : decide (x < 0) = false := by simp; omega
            have t2 : decide (S ≤ x) = false := by simp; omega
            go_wp2_with fail
            go_quiet (fail)
            go_wp2_with fail
            go_roundw
            case rel => exact ⟨1, by omega, rfl, below_drewN hbl _⟩
            case measure => simp [intOf]; omega
          · have k2 := (hbl.cell (p := ⟨b0, o0 + (c - 1), none⟩) hb0).trans (hcell (c - 1) (by omega))
            have hy := HY.out (c - 1) (by have := HN.out; omega)
            rw [show c - 1 + 1 = c by omega] at hy
            generalize L.getD c 0 = x at *
            generalize L.getD (c - 1) 0 = y at *
            clear hcell
            have t1 : decide (x < 0) = false := by simp; omega
            have t2 : decide (S ≤ x) = false := by simp; omega
            have t3 : decide (x ≤ y) = false := by simp; omega
            have t4 : decide (0 < (c : Int)) = true := by simp; omega
            have u1 : IntKind.i64.wrap ((c : Int) - 1) = (c : Int) - 1 := IntWalk.i64_in _ (by omega)
            have u2 : 0 ≤ (c : Int) - 1 := by omega
            have u3 : ((c : Int) - 1).toNat = c - 1 := by omega
            have u4 : (c : Int) - 1 < (N : Int) := by omega
            go_wp2_with fail
            go_quiet (fail)
            clear u1 u2 u3 u4
            go_wp2_with fail
            go_roundw
            case rel => exact ⟨c + 1, by omega, by go_num, below_drewN hbl _⟩
            case measure => simp [intOf]; omega
        · go_wp2_with fail
          refine (alive05 _).mono ?_
          rintro e w7 ⟨rfl, hb7⟩
          have B8 := bnext (bnext B3 hbl) hb7
          go_wp2_with fail
          go_ret
          exact ⟨rfl, B8⟩

set_option maxHeartbeats 4000000 in
theorem kindMasks_3 (wd : Int) (mk : Nat) (n : Int) (hk : (0 : Int) ≤ 3 ∧ (3 : Int) < 256) (hw : -9223372036854775808 ≤ wd ∧ wd ≤ 9223372036854775807) (hm : mk < 18446744073709551616) (h : ofE 3 wd mk n = 0) (w : World) :
    Calls Try.prog 4 #[.agg #[.int .u8 3, .int .i64 wd, .int .u64 (mk : Int)], .int .i64 n] w fun e w' => e = .returned (.bool true) ∧ Below w.heap.size w w' := by
  have HK := Lib.hid hk
  have HW := Lib.hid hw
  have HM := Lib.hid hm
  have HE := Lib.hid h
  obtain ⟨s1, s2⟩ := slotsV_bd h
  obtain ⟨h1, h2, h3⟩ := ofE_facts h
  have hc64 := cnt_le mk 64
  have HWM := Lib.hid (wantM_eq h)
  have HLE := Lib.hid (refsR_le 3 wd mk n)
  have HNS := Lib.hid (show nS 3 wd mk n = slotsV 3 wd n by simp [nS, h])
  have b1 := Blk.new w 24 #[.int .u8 3, .int .i64 wd, .int .u64 (mk : Int)]
  have B1 := balloc (Below.refl _ w) (.cells #[.int .u8 3, .int .i64 wd, .int .u64 (mk : Int)] 24)
  have HX : Hid (∀ i, i < (refsR 3 wd mk n).length → 0 ≤ (refsR 3 wd mk n).getD i 0 ∧ (refsR 3 wd mk n).getD i 0 < slotsV 3 wd n) := Lib.hid (fun i hi => by
    rw [refsR, if_pos h] at hi ⊢
    have := refsL_mem (getD_mem hi)
    omega)
  have HY : Hid (∀ i, i + 1 < (refsR 3 wd mk n).length → (refsR 3 wd mk n).getD i 0 < (refsR 3 wd mk n).getD (i + 1) 0) := Lib.hid (fun i hi => by
    rw [refsR, if_pos h] at hi ⊢
    exact refsL_lt hi)
  have hmul : 0 ≤ (cnt mk 64 : Int) * n ∧ (cnt mk 64 : Int) * n ≤ 262144 := by
    refine ⟨Int.mul_nonneg (by omega) h2.1, ?_⟩
    calc (cnt mk 64 : Int) * n ≤ 64 * n := Int.mul_le_mul_of_nonneg_right (by omega) h2.1
      _ ≤ 262144 := by omega
  have hwr : wrap64 ((cnt mk 64 : Int) * n) = (cnt mk 64 : Int) * n := by generalize (cnt mk 64 : Int) * n = z at *; simp [wrap64]; omega
  clear hk hw hm h h1 h2 h3
  generalize hLL : refsR 3 wd mk n = L at *
  have HLL := Lib.hid hLL
  generalize hSS : slotsV 3 wd n = S at *
  have HSS := Lib.hid hSS
  clear hLL hSS
  have HQ : Hid (∀ N : Nat, L.length = N → ((N : Int) == (cnt mk 64 : Int) * n) = true) := Lib.hid fun N hN => by rw [← hN, HWM.out]; simp [wantM]
  obtain ⟨p1, p2⟩ := hmul
  go_enter Try.func4, Try.ntmps4
  go_wp2_with fail
  refine (krefs_any 3 wd mk n _ HK.out HW.out HM.out).mono ?_
  rintro e w1 ⟨A, N, cc, rfl, hr, hcc, hb1⟩
  rw [HE.out]
  rw [HLL.out] at hr
  have hN : L.length = N := by simpa using hr.1
  have HN := Lib.hid hN
  have hqn := HQ.out N hN
  have hNle : N ≤ 65536 := by have := HLE.out; omega
  clear hN
  have b2 := b1.nx hb1
  have B2 := bnext B1 hb1
  have R1 := Lib.hid hr
  obtain ⟨c0, c1, c2⟩ := b2.c3
  clear hb1 hr
  go_wp2_with fail
  refine (kslots_any 3 wd mk n _ HK.out HW.out HM.out).mono ?_
  rintro e w2 ⟨rfl, hb2⟩
  rw [HE.out, HNS.out]
  have b3 := b2.nx hb2
  have B3 := bnext B2 hb2
  have R2 := Lib.hid ((R1.out.below hb2).more hb2.size)
  clear hb2 c0 c1 c2 b2 B2 R1
  obtain ⟨c0, c1, c2⟩ := b3.c3
  go_wp2_with fail
  go_loop [9, 10] (fun bs i => ∃ c : Nat, c ≤ 64 ∧ i = .int .i64 (c : Int) ∧ bs = .int .i64 (cnt mk c : Int)) (fun _ i => 64 - (intOf i).toNat)
  case atStart => exact ⟨0, by omega, rfl, rfl⟩
  case round =>
    obtain ⟨c, hc, rfl, rfl⟩ := hrel
    have hcl := cnt_le mk c
    by_cases hlt : c < 64
    · have hu : IntKind.u64.wrap (c : Int) = (c : Int) := by simp [IntKind.wrap, IntKind.signed, IntKind.bits]; omega
      cases hb : bitV mk c
      · have hbm := tmod_bit HM.out (by omega : c ≤ 64)
        rw [hb] at hbm
        have HB := Lib.hid (cnt_no hb)
        clear hb
        go_wp2_with fail
        go_round
        case rel => exact ⟨c + 1, by omega, by go_num, by rw [HB.out]⟩
        case measure => simp [intOf]; omega
      · have hbm := tmod_bit HM.out (by omega : c ≤ 64)
        rw [hb] at hbm
        have HB := Lib.hid (cnt_yes hb)
        clear hb
        go_wp2_with fail
        go_round
        case rel => exact ⟨c + 1, by omega, by go_num, by rw [HB.out]; go_num⟩
        case measure => simp [intOf]; omega
    · obtain rfl : c = 64 := by omega
      obtain ⟨b0, o0, HA⟩ : ∃ b0 o0, Hid (∀ i, i < N → A = some ⟨b0, o0, none⟩ ∧ b0 < w2.heap.size ∧ ∀ j, j < N → w2.cell? ⟨b0, o0 + j, none⟩ = some (.int .i64 (L.getD j 0))) := by
        rcases Nat.eq_zero_or_pos N with h0 | h0
        · exact ⟨0, 0, fun i hi => by omega⟩
        · obtain ⟨b0, o0, rfl, hb0, hc0⟩ := R2.out.spot h0
          refine ⟨b0, o0, Lib.hid fun i hi => ⟨rfl, hb0, fun j hj => hc0 j _ ?_⟩⟩
          simp [List.getD, HN.out, hj]
      go_wp2_with fail
      go_loopw [12] (fun i wr => ∃ c : Nat, c ≤ N ∧ i = .int .i64 (c : Int) ∧ Below w2.heap.size w2 wr) (fun i _ => N - (intOf i).toNat)
      case atStart => exact ⟨0, by omega, rfl, Below.refl _ _⟩
      case round =>
        obtain ⟨c, hc, rfl, hbl⟩ := hrel
        by_cases hlt : c < N
        · obtain ⟨rfl, hb0, hcell⟩ := HA.out c hlt
          have hlt' : (c : Int) < (N : Int) := by omega
          have h0 : (0 : Int) ≤ (c : Int) := by omega
          have k1 := (hbl.cell (p := ⟨b0, o0 + c, none⟩) hb0).trans (hcell c hlt)
          have hx := HX.out c (by have := HN.out; omega)
          rcases Nat.eq_zero_or_pos c with h00 | h00
          · subst h00
            rw [Nat.add_zero] at k1
            generalize L.getD 0 0 = x at *
            clear hcell
            have t1 : decide (x < 0) = false := by simp; omega
            have t2 : decide (S ≤ x) = false := by simp; omega
            go_wp2_with fail
            go_quiet (fail)
            go_wp2_with fail
            go_roundw
            case rel => exact ⟨1, by omega, rfl, below_drewN hbl _⟩
            case measure => simp [intOf]; omega
          · have k2 := (hbl.cell (p := ⟨b0, o0 + (c - 1), none⟩) hb0).trans (hcell (c - 1) (by omega))
            have hy := HY.out (c - 1) (by have := HN.out; omega)
            rw [show c - 1 + 1 = c by omega] at hy
            generalize L.getD c 0 = x at *
            generalize L.getD (c - 1) 0 = y at *
            clear hcell
            have t1 : decide (x < 0) = false := by simp; omega
            have t2 : decide (S ≤ x) = false := by simp; omega
            have t3 : decide (x ≤ y) = false := by simp; omega
            have t4 : decide (0 < (c : Int)) = true := by simp; omega
            have u1 : IntKind.i64.wrap ((c : Int) - 1) = (c : Int) - 1 := IntWalk.i64_in _ (by omega)
            have u2 : 0 ≤ (c : Int) - 1 := by omega
            have u3 : ((c : Int) - 1).toNat = c - 1 := by omega
            have u4 : (c : Int) - 1 < (N : Int) := by omega
            go_wp2_with fail
            go_quiet (fail)
            clear u1 u2 u3 u4
            go_wp2_with fail
            go_roundw
            case rel => exact ⟨c + 1, by omega, by go_num, below_drewN hbl _⟩
            case measure => simp [intOf]; omega
        · go_wp2_with fail
          refine (alive05 _).mono ?_
          rintro e w7 ⟨rfl, hb7⟩
          have B8 := bnext (bnext B3 hbl) hb7
          go_wp2_with fail
          go_ret
          exact ⟨rfl, B8⟩

set_option maxHeartbeats 4000000 in
theorem kindMasks_4 (wd : Int) (mk : Nat) (n : Int) (hk : (0 : Int) ≤ 4 ∧ (4 : Int) < 256) (hw : -9223372036854775808 ≤ wd ∧ wd ≤ 9223372036854775807) (hm : mk < 18446744073709551616) (h : ofE 4 wd mk n = 0) (w : World) :
    Calls Try.prog 4 #[.agg #[.int .u8 4, .int .i64 wd, .int .u64 (mk : Int)], .int .i64 n] w fun e w' => e = .returned (.bool true) ∧ Below w.heap.size w w' := by
  have HK := Lib.hid hk
  have HW := Lib.hid hw
  have HM := Lib.hid hm
  have HE := Lib.hid h
  obtain ⟨s1, s2⟩ := slotsV_bd h
  obtain ⟨h1, h2, h3⟩ := ofE_facts h
  have hc64 := cnt_le mk 64
  have HWM := Lib.hid (wantM_eq h)
  have HLE := Lib.hid (refsR_le 4 wd mk n)
  have HNS := Lib.hid (show nS 4 wd mk n = slotsV 4 wd n by simp [nS, h])
  have b1 := Blk.new w 24 #[.int .u8 4, .int .i64 wd, .int .u64 (mk : Int)]
  have B1 := balloc (Below.refl _ w) (.cells #[.int .u8 4, .int .i64 wd, .int .u64 (mk : Int)] 24)
  have HX : Hid (∀ i, i < (refsR 4 wd mk n).length → 0 ≤ (refsR 4 wd mk n).getD i 0 ∧ (refsR 4 wd mk n).getD i 0 < slotsV 4 wd n) := Lib.hid (fun i hi => by
    rw [refsR, if_pos h] at hi ⊢
    have := refsL_mem (getD_mem hi)
    omega)
  have HY : Hid (∀ i, i + 1 < (refsR 4 wd mk n).length → (refsR 4 wd mk n).getD i 0 < (refsR 4 wd mk n).getD (i + 1) 0) := Lib.hid (fun i hi => by
    rw [refsR, if_pos h] at hi ⊢
    exact refsL_lt hi)
  have hmul : 0 ≤ (cnt mk 64 : Int) * n ∧ (cnt mk 64 : Int) * n ≤ 262144 := by
    refine ⟨Int.mul_nonneg (by omega) h2.1, ?_⟩
    calc (cnt mk 64 : Int) * n ≤ 64 * n := Int.mul_le_mul_of_nonneg_right (by omega) h2.1
      _ ≤ 262144 := by omega
  have hwr : wrap64 ((cnt mk 64 : Int) * n) = (cnt mk 64 : Int) * n := by generalize (cnt mk 64 : Int) * n = z at *; simp [wrap64]; omega
  clear hk hw hm h h1 h2 h3
  generalize hLL : refsR 4 wd mk n = L at *
  have HLL := Lib.hid hLL
  generalize hSS : slotsV 4 wd n = S at *
  have HSS := Lib.hid hSS
  clear hLL hSS
  have HQ : Hid (∀ N : Nat, L.length = N → ((N : Int) == 0) = true) := Lib.hid fun N hN => by rw [← hN, HWM.out]; simp [wantM]
  clear hmul hwr
  go_enter Try.func4, Try.ntmps4
  go_wp2_with fail
  refine (krefs_any 4 wd mk n _ HK.out HW.out HM.out).mono ?_
  rintro e w1 ⟨A, N, cc, rfl, hr, hcc, hb1⟩
  rw [HE.out]
  rw [HLL.out] at hr
  have hN : L.length = N := by simpa using hr.1
  have HN := Lib.hid hN
  have hqn := HQ.out N hN
  have hNle : N ≤ 65536 := by have := HLE.out; omega
  clear hN
  have b2 := b1.nx hb1
  have B2 := bnext B1 hb1
  have R1 := Lib.hid hr
  obtain ⟨c0, c1, c2⟩ := b2.c3
  clear hb1 hr
  go_wp2_with fail
  refine (kslots_any 4 wd mk n _ HK.out HW.out HM.out).mono ?_
  rintro e w2 ⟨rfl, hb2⟩
  rw [HE.out, HNS.out]
  have b3 := b2.nx hb2
  have B3 := bnext B2 hb2
  have R2 := Lib.hid ((R1.out.below hb2).more hb2.size)
  clear hb2 c0 c1 c2 b2 B2 R1
  obtain ⟨c0, c1, c2⟩ := b3.c3
  go_wp2_with fail
  go_loop [9, 10] (fun bs i => ∃ c : Nat, c ≤ 64 ∧ i = .int .i64 (c : Int) ∧ bs = .int .i64 (cnt mk c : Int)) (fun _ i => 64 - (intOf i).toNat)
  case atStart => exact ⟨0, by omega, rfl, rfl⟩
  case round =>
    obtain ⟨c, hc, rfl, rfl⟩ := hrel
    have hcl := cnt_le mk c
    by_cases hlt : c < 64
    · have hu : IntKind.u64.wrap (c : Int) = (c : Int) := by simp [IntKind.wrap, IntKind.signed, IntKind.bits]; omega
      cases hb : bitV mk c
      · have hbm := tmod_bit HM.out (by omega : c ≤ 64)
        rw [hb] at hbm
        have HB := Lib.hid (cnt_no hb)
        clear hb
        go_wp2_with fail
        go_round
        case rel => exact ⟨c + 1, by omega, by go_num, by rw [HB.out]⟩
        case measure => simp [intOf]; omega
      · have hbm := tmod_bit HM.out (by omega : c ≤ 64)
        rw [hb] at hbm
        have HB := Lib.hid (cnt_yes hb)
        clear hb
        go_wp2_with fail
        go_round
        case rel => exact ⟨c + 1, by omega, by go_num, by rw [HB.out]; go_num⟩
        case measure => simp [intOf]; omega
    · obtain rfl : c = 64 := by omega
      obtain ⟨b0, o0, HA⟩ : ∃ b0 o0, Hid (∀ i, i < N → A = some ⟨b0, o0, none⟩ ∧ b0 < w2.heap.size ∧ ∀ j, j < N → w2.cell? ⟨b0, o0 + j, none⟩ = some (.int .i64 (L.getD j 0))) := by
        rcases Nat.eq_zero_or_pos N with h0 | h0
        · exact ⟨0, 0, fun i hi => by omega⟩
        · obtain ⟨b0, o0, rfl, hb0, hc0⟩ := R2.out.spot h0
          refine ⟨b0, o0, Lib.hid fun i hi => ⟨rfl, hb0, fun j hj => hc0 j _ ?_⟩⟩
          simp [List.getD, HN.out, hj]
      go_wp2_with fail
      go_loopw [12] (fun i wr => ∃ c : Nat, c ≤ N ∧ i = .int .i64 (c : Int) ∧ Below w2.heap.size w2 wr) (fun i _ => N - (intOf i).toNat)
      case atStart => exact ⟨0, by omega, rfl, Below.refl _ _⟩
      case round =>
        obtain ⟨c, hc, rfl, hbl⟩ := hrel
        by_cases hlt : c < N
        · obtain ⟨rfl, hb0, hcell⟩ := HA.out c hlt
          have hlt' : (c : Int) < (N : Int) := by omega
          have h0 : (0 : Int) ≤ (c : Int) := by omega
          have k1 := (hbl.cell (p := ⟨b0, o0 + c, none⟩) hb0).trans (hcell c hlt)
          have hx := HX.out c (by have := HN.out; omega)
          rcases Nat.eq_zero_or_pos c with h00 | h00
          · subst h00
            rw [Nat.add_zero] at k1
            generalize L.getD 0 0 = x at *
            clear hcell
            have t1 : decide (x < 0) = false := by simp; omega
            have t2 : decide (S ≤ x) = false := by simp; omega
            go_wp2_with fail
            go_quiet (fail)
            go_wp2_with fail
            go_roundw
            case rel => exact ⟨1, by omega, rfl, below_drewN hbl _⟩
            case measure => simp [intOf]; omega
          · have k2 := (hbl.cell (p := ⟨b0, o0 + (c - 1), none⟩) hb0).trans (hcell (c - 1) (by omega))
            have hy := HY.out (c - 1) (by have := HN.out; omega)
            rw [show c - 1 + 1 = c by omega] at hy
            generalize L.getD c 0 = x at *
            generalize L.getD (c - 1) 0 = y at *
            clear hcell
            have t1 : decide (x < 0) = false := by simp; omega
            have t2 : decide (S ≤ x) = false := by simp; omega
            have t3 : decide (x ≤ y) = false := by simp; omega
            have t4 : decide (0 < (c : Int)) = true := by simp; omega
            have u1 : IntKind.i64.wrap ((c : Int) - 1) = (c : Int) - 1 := IntWalk.i64_in _ (by omega)
            have u2 : 0 ≤ (c : Int) - 1 := by omega
            have u3 : ((c : Int) - 1).toNat = c - 1 := by omega
            have u4 : (c : Int) - 1 < (N : Int) := by omega
            go_wp2_with fail
            go_quiet (fail)
            clear u1 u2 u3 u4
            go_wp2_with fail
            go_roundw
            case rel => exact ⟨c + 1, by omega, by go_num, below_drewN hbl _⟩
            case measure => simp [intOf]; omega
        · go_wp2_with fail
          refine (alive05 _).mono ?_
          rintro e w7 ⟨rfl, hb7⟩
          have B8 := bnext (bnext B3 hbl) hb7
          go_wp2_with fail
          go_ret
          exact ⟨rfl, B8⟩

set_option maxHeartbeats 1000000 in
theorem kindMasks_no (k wd : Int) (mk : Nat) (n : Int) (hk : 0 ≤ k ∧ k < 256) (hw : -9223372036854775808 ≤ wd ∧ wd ≤ 9223372036854775807) (hm : mk < 18446744073709551616) (h : ofE k wd mk n ≠ 0) (w : World) :
    Calls Try.prog 4 #[.agg #[.int .u8 k, .int .i64 wd, .int .u64 (mk : Int)], .int .i64 n] w fun e w' => e = .returned (.bool true) ∧ Below w.heap.size w w' := by
  have HK := Lib.hid hk
  have HW := Lib.hid hw
  have HM := Lib.hid hm
  have HLL := Lib.hid (show refsR k wd mk n = [] by simp [refsR, h])
  have b1 := Blk.new w 24 #[.int .u8 k, .int .i64 wd, .int .u64 (mk : Int)]
  have B1 := balloc (Below.refl _ w) (.cells #[.int .u8 k, .int .i64 wd, .int .u64 (mk : Int)] 24)
  have hne : (ofE k wd mk n != 0) = true := by simpa using h
  have hne2 : (ofE k wd mk n != ofE k wd mk n) = false := by simp
  clear hk hw hm h
  go_enter Try.func4, Try.ntmps4
  go_wp2_with fail
  refine (krefs_any _ wd mk n _ HK.out HW.out HM.out).mono ?_
  rintro e w1 ⟨A, N, cc, rfl, hr, hcc, hb1⟩
  rw [HLL.out] at hr
  obtain rfl : N = 0 := by simpa using hr.1.symm
  have b2 := b1.nx hb1
  have B2 := bnext B1 hb1
  obtain ⟨c0, c1, c2⟩ := b2.c3
  clear hb1 hr
  go_wp2_with fail
  refine (kslots_any _ wd mk n _ HK.out HW.out HM.out).mono ?_
  rintro e w2 ⟨rfl, hb2⟩
  have B3 := bnext B2 hb2
  clear hb2
  go_wp2_with fail
  refine (alive05 _).mono ?_
  rintro e w7 ⟨rfl, hb7⟩
  have B8 := bnext B3 hb7
  go_wp2_with fail
  go_ret
  exact ⟨rfl, B8⟩
theorem kindMasks_walk (k wd mk : Int) (k0 : 0 ≤ k) (k1 : k < 256) (w0 : -9223372036854775808 ≤ wd) (w1 : wd ≤ 9223372036854775807) (m0 : 0 ≤ mk) (m1 : mk < 18446744073709551616) (n : Int) (n0 : -9223372036854775808 ≤ n) (n1 : n ≤ 9223372036854775807) (w : World) :
    Calls Try.prog 4 #[.agg #[.int .u8 k, .int .i64 wd, .int .u64 mk], .int .i64 n] w fun e w' => e = .returned (.bool true) ∧ Below w.heap.size w w' := by
  obtain ⟨m, rfl⟩ := Int.eq_ofNat_of_zero_le m0
  by_cases h : ofE k wd m n = 0
  · obtain ⟨g1, _, _, _⟩ := okT_facts (ofE_facts h).1
    rcases g1 with rfl | rfl | rfl | rfl
    · exact kindMasks_1 wd m n ⟨k0, k1⟩ ⟨w0, w1⟩ (by omega) h w
    · exact kindMasks_2 wd m n ⟨k0, k1⟩ ⟨w0, w1⟩ (by omega) h w
    · exact kindMasks_3 wd m n ⟨k0, k1⟩ ⟨w0, w1⟩ (by omega) h w
    · exact kindMasks_4 wd m n ⟨k0, k1⟩ ⟨w0, w1⟩ (by omega) h w
  · exact kindMasks_no k wd m n ⟨k0, k1⟩ ⟨w0, w1⟩ (by omega) h w
end Go.Proofs.Ytehicgndccnopaa
