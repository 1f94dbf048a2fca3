/- The law KindFits: the walk. -/
import Derived.Test.YtehicgndccnopaaKindP
namespace Go.Proofs.Ytehicgndccnopaa
open Go.RowKit
set_option linter.unusedVariables false
set_option linter.unusedSimpArgs false

theorem refsL_split {k wd : Int} {mk c S : Nat} (h : c ≤ S) : ∃ t, refsL k wd mk S = refsL k wd mk c ++ t ∧ ∀ x ∈ t, refV k wd mk x = true := by
  obtain ⟨d, rfl⟩ := Nat.exists_eq_add_of_le h
  refine ⟨((((List.range d).map (c + ·)).filter fun i : Nat => refV k wd mk (i : Int)).map fun i : Nat => (i : Int)), ?_, ?_⟩
  · unfold refsL
    rw [List.range_add, List.filter_append, List.map_append]
  · intro x hx
    obtain ⟨i, hi, rfl⟩ := List.mem_map.1 hx
    exact (List.mem_filter.1 hi).2
theorem refsL_mono {k wd : Int} {mk c S : Nat} (h : c ≤ S) : (refsL k wd mk c).length ≤ (refsL k wd mk S).length := by
  obtain ⟨t, e, _⟩ := refsL_split (k := k) (wd := wd) (mk := mk) h
  rw [e, List.length_append]
  omega
theorem refsL_told {k wd : Int} {mk c S : Nat} (h : c < S) (hr : refV k wd mk (c : Int) = true) :
    (refsL k wd mk c).length < (refsL k wd mk S).length ∧ (refsL k wd mk S).getD (refsL k wd mk c).length 0 = (c : Int) := by
  obtain ⟨t, e, _⟩ := refsL_split (k := k) (wd := wd) (mk := mk) (show c + 1 ≤ S by omega)
  rw [refsL_yes hr] at e
  rw [e]
  refine ⟨by simp, by simp [List.getD]⟩
theorem refsL_untold {k wd : Int} {mk c S : Nat} (h : c < S) (hr : refV k wd mk (c : Int) = false) (hl : (refsL k wd mk c).length < (refsL k wd mk S).length) :
    (refsL k wd mk S).getD (refsL k wd mk c).length 0 ≠ (c : Int) := by
  obtain ⟨t, e, ht⟩ := refsL_split (k := k) (wd := wd) (mk := mk) (show c ≤ S by omega)
  rw [e, List.length_append] at hl
  rw [e]
  have hp : 0 < t.length := by omega
  have : (refsL k wd mk c ++ t).getD (refsL k wd mk c).length 0 = t[0] := by simp [List.getD, hp]
  rw [this]
  intro h2
  have := ht _ (List.getElem_mem hp)
  rw [h2, hr] at this
  cases this

theorem fits_mono {k wd : Int} {mk : Nat} {n m : Int} (h : ofE k wd mk n = 0) (h' : ofE k wd mk m = 0) (hnm : n ≤ m) : slotsV k wd n ≤ slotsV k wd m ∧ (refsR k wd mk n).length ≤ (refsR k wd mk m).length := by
  obtain ⟨h1, h2, h3⟩ := ofE_facts h
  obtain ⟨g1, g2, g3, g4⟩ := okT_facts h1
  have a : slotsV k wd n ≤ slotsV k wd m := by
    unfold slotsV
    split
    · omega
    · split
      · exact Int.mul_le_mul_of_nonneg_right hnm g2.1
      · exact hnm
  refine ⟨a, ?_⟩
  rw [refsR, if_pos h, refsR, if_pos h']
  exact refsL_mono (by omega)

theorem kref_facts {k wd : Int} {mk : Nat} {n : Int} (h : ofE k wd mk n = 0) (c : Nat) (hc : (c : Int) < slotsV k wd n) : rE k wd mk n (c : Int) = 0 ∧ rB k wd mk n (c : Int) = refV k wd mk (c : Int) := by
  have e : rE k wd mk n (c : Int) = 0 := by
    unfold rE
    rw [if_neg (by simpa using h), if_neg (by omega)]
  exact ⟨e, by simp [rB, e]⟩

set_option maxRecDepth 100000 in
set_option maxHeartbeats 4000000 in
theorem kindFits_ok (k wd : Int) (mk : Nat) (n m : Int) (hk : 0 ≤ k ∧ k < 256) (hw : -9223372036854775808 ≤ wd ∧ wd ≤ 9223372036854775807) (hm : mk < 18446744073709551616) (h : ofE k wd mk n = 0) (w : World) :
    Calls Try.prog 8 #[.agg #[.int .u8 k, .int .i64 wd, .int .u64 (mk : Int)], .int .i64 n, .int .i64 m] w fun e w' => e = .returned (.bool true) ∧ Below w.heap.size w w' := by
  have HK := Lib.hid hk
  have HW := Lib.hid hw
  have HM := Lib.hid hm
  have HE := Lib.hid h
  have HFM := Lib.hid (@fits_mono k wd mk n m h)
  have HKF := Lib.hid (@kref_facts k wd mk n h)
  obtain ⟨s1, s2⟩ := slotsV_bd h
  obtain ⟨S, hS⟩ := Int.eq_ofNat_of_zero_le s1
  have HLE := Lib.hid (refsR_le k wd mk n)
  have HLE2 := Lib.hid (refsR_le k wd mk m)
  have HNS := Lib.hid (show nS k wd mk n = (S : Int) by rw [← hS]; simp [nS, h])
  have HGS := Lib.hid (show gS k wd mk n = ((S : Int) + 2) / 2 by rw [← hS]; simp [gS, h])
  have HLL := Lib.hid (show refsR k wd mk n = refsL k wd mk S by rw [refsR, if_pos h, hS]; simp)
  rw [hS] at s2
  have HS := Lib.hid hS
  have b1 := Blk.new w 24 #[.int .u8 k, .int .i64 wd, .int .u64 (mk : Int)]
  have B1 := balloc (Below.refl _ w) (.cells #[.int .u8 k, .int .i64 wd, .int .u64 (mk : Int)] 24)
  clear hk hw hm h hS s1
  go_enter Try.func8, Try.ntmps8
  go_wp2_with fail
  refine (kslots_any k wd mk n _ HK.out HW.out HM.out).mono ?_
  rintro e w1 ⟨rfl, hb1⟩
  rw [HE.out, HNS.out]
  have b2 := b1.nx hb1
  have B2 := bnext B1 hb1
  clear hb1 b1 B1
  obtain ⟨c0, c1, c2⟩ := b2.c3
  go_wp2_with fail
  refine (ksize_any k wd mk n _ HK.out HW.out HM.out).mono ?_
  rintro e w2 ⟨rfl, hb2⟩
  rw [HE.out, HGS.out]
  have b3 := b2.nx hb2
  have B3 := bnext B2 hb2
  clear hb2 c0 c1 c2 b2 B2
  obtain ⟨c0, c1, c2⟩ := b3.c3
  go_wp2_with fail
  refine (krefs_any k wd mk n _ HK.out HW.out HM.out).mono ?_
  rintro e w3 ⟨A, N, cc, rfl, hr, hcc, hb3⟩
  rw [HE.out]
  rw [HLL.out] at hr
  have hN : (refsL k wd mk S).length = N := by simpa using hr.1
  have HN := Lib.hid hN
  have hNle : N ≤ 65536 := by have := HLE.out; rw [HLL.out] at this; omega
  have b4 := b3.nx hb3
  have B4 := bnext B3 hb3
  have R4 := Lib.hid hr
  clear hb3 c0 c1 c2 b3 B3 hN hr
  have hz4 := b4.lt
  obtain ⟨b0, o0, HA⟩ : ∃ b0 o0, Hid (∀ i, i < N → A = some ⟨b0, o0, none⟩ ∧ b0 < w3.heap.size ∧ w3.cell? ⟨b0, o0 + i, none⟩ = some (.int .i64 ((refsL k wd mk S).getD i 0))) := by
    rcases Nat.eq_zero_or_pos N with h0 | h0
    · exact ⟨0, 0, fun i hi => by omega⟩
    · obtain ⟨b0, o0, rfl, hb0, hc0⟩ := R4.out.spot h0
      refine ⟨b0, o0, Lib.hid fun j hj => ⟨rfl, hb0, hc0 j _ ?_⟩⟩
      simp [List.getD, HN.out, hj]
  go_wp2_with fail
  go_loopw [13, 14] (fun t i wr => ∃ c : Nat, c ≤ S ∧ c ≤ 300 ∧ i = .int .i64 (c : Int) ∧ t = .int .i64 ((refsL k wd mk c).length : Int) ∧ Below w3.heap.size w3 wr) (fun _ i _ => 300 - (intOf i).toNat)
  case atStart => exact ⟨0, by omega, by omega, rfl, rfl, Below.refl _ _⟩
  case round =>
    obtain ⟨c, hc, hc3, rfl, rfl, hbl⟩ := hrel
    by_cases hlt : c < S ∧ c < 300
    · obtain ⟨hlt, hlt3⟩ := hlt
      have b5 := b4.below hbl b4.lt
      obtain ⟨c0, c1, c2⟩ := b5.c3
      have hle := refsL_le k wd mk c
      have HK1 := Lib.hid (HKF.out c (by rw [HS.out]; omega))
      go_wp2_with fail
      refine (kref_any k wd mk n _ HK.out HW.out HM.out (c : Int)).mono ?_
      rintro e w5 ⟨rfl, hb5⟩
      rw [HK1.out.1, HK1.out.2]
      have hbl5 := hbl.trans (hb5.mono hbl.size)
      clear hb5 c0 c1 c2 b5 hbl
      cases hv : refV k wd mk (c : Int)
      · have HU := Lib.hid (refsL_untold (S := S) hlt hv)
        have HR := Lib.hid (refsL_no hv)
        clear hv
        generalize hg : (refsL k wd mk c).length = a at *
        have HG := Lib.hid hg
        clear hg
        by_cases ha : a < N
        · obtain ⟨rfl, hb0, hcell⟩ := HA.out a ha
          have k1 := (hbl5.cell (p := ⟨b0, o0 + a, none⟩) hb0).trans hcell
          have hne := HU.out (by have := HN.out; omega)
          generalize (refsL k wd mk S).getD a 0 = x at *
          have t1 : (x == (c : Int)) = false := by simpa using hne
          clear hne hcell
          have ha' : (a : Int) < (N : Int) := by omega
          go_wp2_with fail
          go_roundw
          case rel => exact ⟨c + 1, by omega, by omega, by go_num, by rw [HR.out, HG.out], hbl5⟩
          case measure => simp [intOf]; omega
        · have ha' : ¬ (a : Int) < (N : Int) := by omega
          go_wp2_with fail
          go_roundw
          case rel => exact ⟨c + 1, by omega, by omega, by go_num, by rw [HR.out, HG.out], hbl5⟩
          case measure => simp [intOf]; omega
      · obtain ⟨ha, hx⟩ := refsL_told (S := S) hlt hv
        have HR := Lib.hid (refsL_yes hv)
        clear hv
        have HX := Lib.hid hx
        clear hx
        have ha : (refsL k wd mk c).length < N := by have := HN.out; omega
        obtain ⟨rfl, hb0, hcell⟩ := HA.out _ ha
        rw [HX.out] at hcell
        have k1 := (hbl5.cell (p := ⟨b0, o0 + (refsL k wd mk c).length, none⟩) hb0).trans hcell
        clear hcell
        generalize hg : (refsL k wd mk c).length = a at *
        have HG := Lib.hid hg
        clear hg
        have t1 : ((c : Int) == (c : Int)) = true := by simp
        have ha' : (a : Int) < (N : Int) := by omega
        go_wp2_with fail
        go_roundw
        case rel => exact ⟨c + 1, by omega, by omega, by go_num, by rw [HR.out, List.length_append, HG.out]; go_num, hbl5⟩
        case measure => simp [intOf]; omega
    · have B5 := bnext B4 hbl
      have b5 := b4.below hbl b4.lt
      obtain ⟨c0, c1, c2⟩ := b5.c3
      have HC := Lib.hid hlt
      clear hbl
      have hcs : (c < S ∧ c = 300) ∨ c = S := by omega
      clear hlt
      rcases hcs with ⟨h1, rfl⟩ | rfl
      all_goals
        go_wp2_with fail
        refine (kslots_any k wd mk m _ HK.out HW.out HM.out).mono ?_
        rintro e w6 ⟨rfl, hb6⟩
        have b6 := b5.nx hb6
        have B6 := bnext B5 hb6
        clear hb6 c0 c1 c2 b5 B5
        obtain ⟨c0, c1, c2⟩ := b6.c3
        go_wp2_with fail
        refine (ksize_any k wd mk m _ HK.out HW.out HM.out).mono ?_
        rintro e w7 ⟨rfl, hb7⟩
        have b7 := b6.nx hb7
        have B7 := bnext B6 hb7
        clear hb7 c0 c1 c2 b6 B6
        obtain ⟨c0, c1, c2⟩ := b7.c3
        go_wp2_with fail
        refine (krefs_any k wd mk m _ HK.out HW.out HM.out).mono ?_
        rintro e w8 ⟨A8, N8, cc8, rfl, hr8, hcc8, hb8⟩
        have B8 := bnext B7 hb8
        have hN8 : (refsR k wd mk m).length = N8 := by simpa using hr8.1
        have HN8 := Lib.hid hN8
        have hN8le : N8 ≤ 65536 := by have := HLE2.out; omega
        clear hb8 c0 c1 c2 b7 B7 hN8 hr8
        by_cases h2 : ofE k wd mk m = 0
        · by_cases h3 : m < n
          · rw [h2]
            have t1 : decide (m < n) = true := by simpa using h3
            clear h2
            go_wp2_with fail
            refine (alive05 _).mono ?_
            rintro e w9 ⟨rfl, hb9⟩
            have B9 := bnext B8 hb9
            go_wp2_with fail
            go_ret
            exact ⟨rfl, B9⟩
          · have hmn := HFM.out h2 (by omega)
            obtain ⟨s3, s4⟩ := slotsV_bd h2
            rw [show nS k wd mk m = slotsV k wd m by simp [nS, h2], show gS k wd mk m = (slotsV k wd m + 2) / 2 by simp [gS, h2], h2]
            rw [HS.out, HLL.out, HN.out, HN8.out] at hmn
            obtain ⟨m1, m2⟩ := hmn
            clear h2
            generalize slotsV k wd m = T at *
            go_wp2_with fail
            refine (alive05 _).mono ?_
            rintro e w9 ⟨rfl, hb9⟩
            have B9 := bnext B8 hb9
            go_wp2_with fail
            go_ret
            exact ⟨rfl, B9⟩
        · have t1 : (ofE k wd mk m != 0) = true := by simpa using h2
          have t2 : (ofE k wd mk m != ofE k wd mk m) = false := by simp
          clear h2
          go_wp2_with fail
          refine (alive05 _).mono ?_
          rintro e w9 ⟨rfl, hb9⟩
          have B9 := bnext B8 hb9
          go_wp2_with fail
          go_ret
          exact ⟨rfl, B9⟩

set_option maxRecDepth 100000 in
set_option maxHeartbeats 1000000 in
theorem kindFits_no (k wd : Int) (mk : Nat) (n m : Int) (hk : 0 ≤ k ∧ k < 256) (hw : -9223372036854775808 ≤ wd ∧ wd ≤ 9223372036854775807) (hm : mk < 18446744073709551616) (h : ofE k wd mk n ≠ 0) (w : World) :
    Calls Try.prog 8 #[.agg #[.int .u8 k, .int .i64 wd, .int .u64 (mk : Int)], .int .i64 n, .int .i64 m] w fun e w' => e = .returned (.bool true) ∧ Below w.heap.size w w' := by
  have HK := Lib.hid hk
  have HW := Lib.hid hw
  have HM := Lib.hid hm
  have b1 := Blk.new w 24 #[.int .u8 k, .int .i64 wd, .int .u64 (mk : Int)]
  have B1 := balloc (Below.refl _ w) (.cells #[.int .u8 k, .int .i64 wd, .int .u64 (mk : Int)] 24)
  have hne : (ofE k wd mk n != 0) = true := by simpa using h
  have hne2 : (ofE k wd mk n != ofE k wd mk n) = false := by simp
  clear hk hw hm h
  go_enter Try.func8, Try.ntmps8
  go_wp2_with fail
  refine (kslots_any k wd mk n _ HK.out HW.out HM.out).mono ?_
  rintro e w1 ⟨rfl, hb1⟩
  have b2 := b1.nx hb1
  have B2 := bnext B1 hb1
  obtain ⟨c0, c1, c2⟩ := b2.c3
  clear hb1
  go_wp2_with fail
  refine (ksize_any k wd mk n _ HK.out HW.out HM.out).mono ?_
  rintro e w2 ⟨rfl, hb2⟩
  have B3 := bnext B2 hb2
  clear hb2
  go_wp2_with fail
  refine (alive05 _).mono ?_
  rintro e w7 ⟨rfl, hb7⟩
  have B8 := bnext B3 hb7
  go_wp2_with fail
  go_ret
  exact ⟨rfl, B8⟩
theorem kindFits_walk (k wd mk : Int) (k0 : 0 ≤ k) (k1 : k < 256) (w0 : -9223372036854775808 ≤ wd) (w1 : wd ≤ 9223372036854775807) (m0 : 0 ≤ mk) (m1 : mk < 18446744073709551616) (n : Int) (n0 : -9223372036854775808 ≤ n) (n1 : n ≤ 9223372036854775807) (m : Int) (r0 : -9223372036854775808 ≤ m) (r1 : m ≤ 9223372036854775807) (w : World) :
    Calls Try.prog 8 #[.agg #[.int .u8 k, .int .i64 wd, .int .u64 mk], .int .i64 n, .int .i64 m] w fun e w' => e = .returned (.bool true) ∧ Below w.heap.size w w' := by
  obtain ⟨q, rfl⟩ := Int.eq_ofNat_of_zero_le m0
  by_cases h : ofE k wd q n = 0
  · exact kindFits_ok k wd q n m ⟨k0, k1⟩ ⟨w0, w1⟩ (by omega) h w
  · exact kindFits_no k wd q n m ⟨k0, k1⟩ ⟨w0, w1⟩ (by omega) h w
end Go.Proofs.Ytehicgndccnopaa
