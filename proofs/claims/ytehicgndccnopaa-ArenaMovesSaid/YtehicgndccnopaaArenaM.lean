/- The law ArenaMoves: the walk. -/
import Derived.Test.YtehicgndccnopaaArenaQ
import Derived.Test.YtehicgndccnopaaArenaK
import Derived.IntWalk
namespace Go.Proofs.Ytehicgndccnopaa
open Go.RowKit
set_option linter.unusedVariables false
set_option linter.unusedSimpArgs false

theorem row_part {w : World} {b o N : Nat} {zs : List Int} (hl : zs.length = N) (hb : b < w.heap.size) (hc : ∀ j, j < N → w.cell? ⟨b, o + j, none⟩ = some (.int .u64 (zs.getD j 0))) (i m : Nat) (h : i + m ≤ N) :
    Reads w w.heap.size 1 (some ⟨b, o + i, none⟩) m (((zs.drop i).take m).map (Value.int .u64)) :=
  ⟨by simp; omega, fun hm => ⟨_, rfl, hb, fun q u hu => by
    have hq : q < m := by have := (List.getElem?_eq_some_iff.1 hu).1; simp at this; omega
    have e : (⟨b, o + i, none⟩ : Addr).add q = ⟨b, o + (i + q), none⟩ := by unfold Addr.add; split <;> simp_all [Nat.add_assoc]
    rw [e, hc (i + q) (by omega), ← hu]
    have hiq : i + q < zs.length := by omega
    simp [List.getElem?_take, hq, List.getD, hiq]⟩⟩

set_option maxRecDepth 100000 in
set_option maxHeartbeats 4000000 in
theorem arenaMoves_no (w : World) (A : Option Addr) (N cap : Nat) (zs : List Int) (h : RowIs .u64 w A N cap zs) (t f n : Int) (t0 : -9223372036854775808 ≤ t) (t1 : t ≤ 9223372036854775807) (f0 : -9223372036854775808 ≤ f) (f1 : f ≤ 9223372036854775807) (n0 : -9223372036854775808 ≤ n) (n1 : n ≤ 9223372036854775807) (hE : mvE N t f n ≠ 0)
    (h0 : 16 ≤ N) (h1 : N ≤ 400) (h2 : N % 2 = 0) :
    Calls Try.prog 6 #[.slice A N cap, .int .i64 t, .int .i64 f, .int .i64 n] w fun e w' => e = .returned (.bool true) ∧ Below w.heap.size w w' := by
  have hl := h.len_eq
  have hlc := h.2.1
  have hcm := h.2.2.1
  unfold maxLen at hcm
  have HR := Lib.hid h.1
  obtain ⟨b, o, rfl, hb, hcell⟩ := h.spot (by omega)
  have HC := Lib.hid hcell
  have HL := Lib.hid hl
  clear h hcell hl
  have NW := Lib.hid (fun W => new_ok W N (by omega) (by omega) h2)
  have tz : (((N : Int) % 2) != 0) = false := by simp; omega
  obtain ⟨he, hcs⟩ := mvE_no hE
  have HE := Lib.hid he
  have T0 := Lib.hid (And.intro t0 (And.intro t1 (And.intro f0 (And.intro f1 (And.intro n0 n1)))))
  have HW := Lib.hid (show mvW zs t f n = zs by simp [mvW, HL.out, he])
  have HQ2 := Lib.hid (show ∀ c, mvC zs t f n c = c by intro c; simp [mvC, HL.out, he])
  have hu : IntKind.u64.wrap (N : Int) = (N : Int) := by simp [IntKind.wrap, IntKind.signed, IntKind.bits]; omega
  clear he hE t0 t1 f0 f1 n0 n1
  go_enter Try.func6, Try.ntmps6
  go_wp2_with fail
  refine (NW.out _).mono ?_
  rintro e w1 ⟨bs, br, rfl, hI, hs, hr, hb1⟩
  have I1 : Hid (IsAr w1 bs br (layW zs 0) [] 0) := Lib.hid (by rw [layW_zero, HL.out]; exact hI)
  have B1 := Lib.hid hb1
  clear hI hb1
  go_wp2_with fail
  go_loopw [11] (fun k wr => ∃ c : Nat, c ≤ N ∧ k = .int .i64 (c : Int) ∧ IsAr wr bs br (layW zs c) [] c ∧ Below w.heap.size w wr) (fun k _ => N - (intOf k).toNat)
  case atStart => exact ⟨0, by omega, rfl, I1.out, B1.out⟩
  case round =>
    obtain ⟨c, hc, rfl, hI, hB⟩ := hrel
    by_cases hlt : c < N
    · have k1 := (hB.cell (p := ⟨b, o + c, none⟩) hb).trans (HC.out c hlt)
      have hlt' : (c : Int) < (N : Int) := by omega
      have IC := Lib.hid hI
      have BC := Lib.hid hB
      clear hI hB
      have HS := Lib.hid (layW_succ (ws := zs) (c := c) (by rw [HL.out]; exact hlt))
      have HQ := Lib.hid (layW_c (ws := zs) (c := c) (by rw [HL.out]; exact hlt) c)
      have HE := Lib.hid (layW_has (ws := zs) (c := c) (by rw [HL.out]; exact hlt))
      generalize zs.getD c 0 = y at *
      go_wp2_with fail
      refine (store_any _ bs br _ [] c IC.out (c : Int) y (by omega) (by omega) (by omega)).mono ?_
      rintro e w2 ⟨rfl, hI, hT⟩
      rw [HE.out]
      rw [HS.out, HQ.out] at hI
      have I2 := Lib.hid hI
      have B2 := Lib.hid (btouch BC.out hs hr (Nat.le_refl _) hT)
      clear hI hT
      go_wp2_with fail
      go_roundw
      case rel => exact ⟨c + 1, by omega, by go_num, I2.out, B2.out⟩
      case measure => simp [intOf]; omega
    · obtain rfl : c = N := by omega
      rw [← HL.out, layW_all] at hI
      have IC : Hid (IsAr wr bs br zs [] c) := Lib.hid (by rw [HL.out] at hI; exact hI)
      have BC := Lib.hid hB
      clear hI hB
      go_wp2_with fail
      obtain ⟨t0, t1, f0, f1, n0, n1⟩ := T0.out
      refine (move_any _ bs br zs [] c IC.out t f n t0 t1 f0 f1 n0 n1 (by omega)).mono ?_
      rintro e w2 ⟨rfl, hI, hT⟩
      rw [HL.out, HE.out]
      rw [HW.out, HQ2.out] at hI
      have I2 := Lib.hid hI
      have B2 := Lib.hid (btouch BC.out hs hr (Nat.le_refl _) hT)
      clear hI hT BC IC t0 t1 f0 f1 n0 n1
      go_wp2_with fail
      refine (words_any _ bs br zs [] c I2.out 0 (c : Int) (by omega) (by omega) (by omega) (by omega)).mono ?_
      rintro e w3 ⟨v, rfl, hown, hb3⟩
      have hwl : woL zs 0 (c : Int) = zs := by have := woL_all zs; rw [HL.out] at this; exact this
      rw [HL.out, hasE_all]
      rw [hwl, HL.out] at hown
      obtain ⟨A', cc', hv⟩ := own_form2 hown
      rw [hv] at hown ⊢
      have O3 := Lib.hid hown
      have I3 := Lib.hid (I2.out.nx hb3)
      have B3 := Lib.hid (bnext B2.out hb3)
      clear hown hb3 hv hwl
      have T0' := T0.out
      obtain ⟨t0, t1, f0, f1, n0, n1⟩ := T0'
      rcases hcs with g1 | ⟨g1, g2⟩ | ⟨g1, g2, g3⟩ | ⟨g1, g2, g3, g4⟩ | ⟨g1, g2, g3, g4, g5⟩ | ⟨g1, g2, g3, g4, g5, g6⟩ | ⟨g1, g2, g3, g4, g5, g6, g7⟩
      all_goals
        try (have d1 : decide (n ≤ (c : Int) - t) = false := by simp; omega)
        try (have d2 : decide (n ≤ (c : Int) - f) = false := by simp; omega)
        try (have d3 : decide (t ≤ (c : Int)) = false := by simp; omega)
        try (have d4 : decide (f ≤ (c : Int)) = false := by simp; omega)
        try (have d5 : decide (0 ≤ n) = false := by simp; omega)
        try (have d6 : decide (0 ≤ t) = false := by simp; omega)
        go_wp2_with fail
        refine (same2_any _ A' _ c cc' c cap zs zs (Reads.of_own O3.out) ((HR.out.below B3.out).more B3.out.size) (by omega) (by omega)).mono ?_
        rintro e w4 ⟨rfl, hb4⟩
        rw [decide_eq_true (rfl : zs = zs)]
        have I4 := Lib.hid (I3.out.nx hb4)
        have B4 := Lib.hid (bnext B3.out hb4)
        clear hb4
        go_wp2_with fail
        refine (writes_any _ bs br zs [] c I4.out).mono ?_
        rintro e w' ⟨rfl, rfl⟩
        go_wp2_with fail
        refine (alive02 _).mono ?_
        rintro e w7 ⟨rfl, hb7⟩
        have B8 := bnext B4.out hb7
        go_wp2_with fail
        go_ret
        exact ⟨rfl, B8⟩

set_option maxRecDepth 100000 in
set_option maxHeartbeats 4000000 in
theorem arenaMoves_ok (w : World) (A : Option Addr) (N cap : Nat) (zs : List Int) (h : RowIs .u64 w A N cap zs) (j i m : Nat) (hj : j + m ≤ N) (hi : i + m ≤ N)
    (h0 : 16 ≤ N) (h1 : N ≤ 400) (h2 : N % 2 = 0) :
    Calls Try.prog 6 #[.slice A N cap, .int .i64 (j : Int), .int .i64 (i : Int), .int .i64 (m : Int)] w fun e w' => e = .returned (.bool true) ∧ Below w.heap.size w w' := by
  have hl := h.len_eq
  have hlc := h.2.1
  have hcm := h.2.2.1
  unfold maxLen at hcm
  have HR := Lib.hid h.1
  obtain ⟨b, o, rfl, hb, hcell⟩ := h.spot (by omega)
  have HC := Lib.hid hcell
  have HL := Lib.hid hl
  clear h hcell hl
  have NW := Lib.hid (fun W => new_ok W N (by omega) (by omega) h2)
  have t1 : (((N : Int) % 2) != 0) = false := by simp; omega
  have HJ := Lib.hid (show j + m ≤ zs.length by rw [HL.out]; exact hj)
  have HI := Lib.hid (show i + m ≤ zs.length by rw [HL.out]; exact hi)
  have EF := Lib.hid (hasE_is (len := N) (i := (i : Int)) (n := (m : Int)) (by omega))
  have ET := Lib.hid (hasE_is (len := N) (i := (j : Int)) (n := (m : Int)) (by omega))
  have HE := Lib.hid (show mvE N (j : Int) (i : Int) (m : Int) = 0 by simp [mvE, EF.out, ET.out])
  have HW := Lib.hid (show mvW zs (j : Int) (i : Int) (m : Int) = moveL zs j i m by simp [mvW, HL.out, HE.out])
  have HQ2 := Lib.hid (show ∀ c, mvC zs (j : Int) (i : Int) (m : Int) c = c + m by intro c; simp [mvC, HL.out, HE.out])
  have HP := Lib.hid (row_part HL.out hb HC.out i m hi)
  have HML := Lib.hid (show (moveL zs j i m).length = N by rw [moveL_length HJ.out HI.out]; exact HL.out)
  have hu2 : IntKind.u64.wrap ((N : Int) + (m : Int)) = (N : Int) + (m : Int) := by simp [IntKind.wrap, IntKind.signed, IntKind.bits]; omega
  go_enter Try.func6, Try.ntmps6
  go_wp2_with fail
  refine (NW.out _).mono ?_
  rintro e w1 ⟨bs, br, rfl, hI, hs, hr, hb1⟩
  have I1 : Hid (IsAr w1 bs br (layW zs 0) [] 0) := Lib.hid (by rw [layW_zero, HL.out]; exact hI)
  have B1 := Lib.hid hb1
  clear hI hb1
  go_wp2_with fail
  go_loopw [11] (fun k wr => ∃ c : Nat, c ≤ N ∧ k = .int .i64 (c : Int) ∧ IsAr wr bs br (layW zs c) [] c ∧ Below w.heap.size w wr) (fun k _ => N - (intOf k).toNat)
  case atStart => exact ⟨0, by omega, rfl, I1.out, B1.out⟩
  case round =>
    obtain ⟨c, hc, rfl, hI, hB⟩ := hrel
    by_cases hlt : c < N
    · have k1 := (hB.cell (p := ⟨b, o + c, none⟩) hb).trans (HC.out c hlt)
      have hlt' : (c : Int) < (N : Int) := by omega
      have IC := Lib.hid hI
      have BC := Lib.hid hB
      clear hI hB
      have HS := Lib.hid (layW_succ (ws := zs) (c := c) (by rw [HL.out]; exact hlt))
      have HQ := Lib.hid (layW_c (ws := zs) (c := c) (by rw [HL.out]; exact hlt) c)
      have HE := Lib.hid (layW_has (ws := zs) (c := c) (by rw [HL.out]; exact hlt))
      generalize zs.getD c 0 = y at *
      go_wp2_with fail
      refine (store_any _ bs br _ [] c IC.out (c : Int) y (by omega) (by omega) (by omega)).mono ?_
      rintro e w2 ⟨rfl, hI, hT⟩
      rw [HE.out]
      rw [HS.out, HQ.out] at hI
      have I2 := Lib.hid hI
      have B2 := Lib.hid (btouch BC.out hs hr (Nat.le_refl _) hT)
      clear hI hT
      go_wp2_with fail
      go_roundw
      case rel => exact ⟨c + 1, by omega, by go_num, I2.out, B2.out⟩
      case measure => simp [intOf]; omega
    · obtain rfl : c = N := by omega
      rw [← HL.out, layW_all] at hI
      have IC : Hid (IsAr wr bs br zs [] c) := Lib.hid (by rw [HL.out] at hI; exact hI)
      have BC := Lib.hid hB
      clear hI hB
      go_wp2_with fail
      refine (move_any _ bs br zs [] c IC.out (j : Int) (i : Int) (m : Int) (by omega) (by omega) (by omega) (by omega) (by omega) (by omega) (by omega)).mono ?_
      rintro e w2 ⟨rfl, hI, hT⟩
      rw [HL.out, HE.out]
      rw [HW.out, HQ2.out] at hI
      have I2 := Lib.hid hI
      have B2 := Lib.hid (btouch BC.out hs hr (Nat.le_refl _) hT)
      clear hI hT BC IC
      go_wp2_with fail
      refine (words_any _ bs br _ [] _ I2.out 0 (c : Int) (by omega) (by omega) (by omega) (by omega)).mono ?_
      rintro e w3 ⟨v, rfl, hown, hb3⟩
      have hwl : woL (moveL zs j i m) 0 (c : Int) = moveL zs j i m := by have := woL_all (moveL zs j i m); rw [HML.out] at this; exact this
      rw [HML.out, hasE_all]
      rw [hwl, HML.out] at hown
      obtain ⟨A', cc', hv⟩ := own_form2 hown
      rw [hv] at hown ⊢
      have R3 := Reads.of_own hown
      obtain ⟨b', o', hA', hb', hc'⟩ := R3.spot (by omega)
      subst hA'
      have HN3 : Hid (∀ q, q < c → w3.cell? ⟨b', o' + q, none⟩ = some (.int .u64 ((moveL zs j i m).getD q 0))) := Lib.hid (fun q hq => hc' q _ (by simp [List.getD, HML.out, hq]))
      have I3 := Lib.hid (I2.out.nx hb3)
      have B3 := Lib.hid (bnext B2.out hb3)
      clear hown hb3 hv hwl R3 hc'
      have d1 : decide ((m : Int) ≤ (c : Int) - (j : Int)) = true := by simp; omega
      go_wp2_with fail
      go_loop [16] (fun k => ∃ q : Nat, q ≤ c ∧ k = .int .i64 (q : Int)) (fun k => c - (intOf k).toNat)
      case atStart => exact ⟨0, by omega, rfl⟩
      case round =>
        obtain ⟨q, hq, rfl⟩ := hrel
        by_cases hlt : q < c
        · have k1 := (B3.out.cell (p := ⟨b, o + q, none⟩) hb).trans (HC.out q hlt)
          have k2 := HN3.out q hlt
          have hlt' : (q : Int) < (c : Int) := by omega
          have hg := moveL_get HJ.out HI.out q
          rcases (by omega : q < j ∨ (j ≤ q ∧ j + m ≤ q) ∨ (j ≤ q ∧ q < j + m)) with g1 | ⟨g1, g2⟩ | ⟨g1, g2⟩
          · rw [hg, if_neg (by omega)] at k2
            clear hg
            generalize zs.getD q 0 = z at *
            have tw : (z != z) = false := by simp
            go_wp2_with fail
            go_round
            case rel => exact ⟨q + 1, by omega, by go_num⟩
            case measure => simp [intOf]; omega
          · rw [hg, if_neg (by omega)] at k2
            clear hg
            generalize zs.getD q 0 = z at *
            have tw : (z != z) = false := by simp
            go_wp2_with fail
            go_round
            case rel => exact ⟨q + 1, by omega, by go_num⟩
            case measure => simp [intOf]; omega
          · have k3 := (B3.out.cell (p := ⟨b, o + (i + (q - j)), none⟩) hb).trans (HC.out (i + (q - j)) (by omega))
            rw [hg, if_pos ⟨g1, g2⟩] at k2
            clear hg
            generalize zs.getD q 0 = z at *
            generalize zs.getD (i + (q - j)) 0 = y at *
            have tw : (y != y) = false := by simp
            have e1 : ((i : Int) + (q : Int) - (j : Int)).toNat = i + (q - j) := by omega
            have e2 : (0 : Int) ≤ (i : Int) + (q : Int) - (j : Int) := by omega
            have e3 : (i : Int) + (q : Int) - (j : Int) < (c : Int) := by omega
            go_wp2_with fail
            go_round
            case rel => exact ⟨q + 1, by omega, by go_num⟩
            case measure => simp [intOf]; omega
        · obtain rfl : q = c := by omega
          have hqq : (((q : Int) + (m : Int)) != ((q : Int) + (m : Int))) = false := by simp
          go_wp2_with fail
          refine (writes_any _ bs br _ [] _ I3.out).mono ?_
          rintro e w' ⟨rfl, rfl⟩
          rw [show (((q + m : Nat) : Int)) = (q : Int) + (m : Int) by omega]
          go_wp2_with fail
          refine (words_any _ bs br _ [] _ I3.out (i : Int) (m : Int) (by omega) (by omega) (by omega) (by omega)).mono ?_
          rintro e w5 ⟨v5, rfl, hown5, hb5⟩
          have hw5 : woL (moveL zs j i m) (i : Int) (m : Int) = ((moveL zs j i m).drop i).take m := by simp [woL, HML.out, EF.out]
          have hl5 : (((moveL zs j i m).drop i).take m).length = m := by simp [HML.out]; omega
          rw [HML.out, EF.out]
          rw [hw5, hl5] at hown5
          obtain ⟨A5, cc5, hv5⟩ := own_form2 hown5
          rw [hv5] at hown5 ⊢
          have O5 := Lib.hid hown5
          have I5 := Lib.hid (I3.out.nx hb5)
          have B5 := Lib.hid (bnext B3.out hb5)
          have hlt1 := I3.out.s.lt
          have hlt2 := I3.out.r.lt
          clear hown5 hb5 hv5 hw5 hl5
          by_cases hap : j + m ≤ i ∨ i + m ≤ j
          · have HAP := Lib.hid (moveL_apart HJ.out HI.out hap)
            have ht : decide ((j : Int) < (i : Int) + (m : Int)) = false ∨ (decide ((j : Int) < (i : Int) + (m : Int)) = true ∧ decide ((i : Int) < (j : Int) + (m : Int)) = false) := by simp; omega
            rw [HAP.out] at O5
            have E2 := Lib.hid (show mvE q (i : Int) (j : Int) (m : Int) = 0 by simp [mvE, EF.out, ET.out])
            rcases ht with ht | ⟨ht, ht2⟩
            all_goals
              by_cases hci : i = cap
              all_goals
                first | subst hci | (have hci2 : ¬ cap = i := fun e => hci e.symm)
                go_wp2_with fail
                refine (move_any _ bs br _ [] _ I5.out (i : Int) (j : Int) (m : Int) (by omega) (by omega) (by omega) (by omega) (by omega) (by omega) (by omega)).mono ?_
                rintro e w6 ⟨rfl, hI6, hT6⟩
                rw [HML.out, E2.out]
                have B6 := Lib.hid (btouch B5.out hs hr (Nat.le_refl _) hT6)
                have O6 := Lib.hid (own_touch O5.out hlt1 hlt2 hT6)
                clear hI6 hT6
                go_wp2_with fail
                refine (same2_any _ A5 _ m cc5 m _ ((zs.drop i).take m) ((zs.drop i).take m) (Reads.of_own O6.out) (by first | exact (HP.out.below B6.out).more B6.out.size | exact ⟨HP.out.1, fun h => absurd h (by omega)⟩) (by omega) (by omega)).mono ?_
                rintro e w7 ⟨rfl, hb7⟩
                rw [decide_eq_true (rfl : ((zs.drop i).take m) = ((zs.drop i).take m))]
                have B7 := Lib.hid (bnext B6.out hb7)
                clear hb7
                go_wp2_with fail
                refine (alive02 _).mono ?_
                rintro e w8 ⟨rfl, hb8⟩
                have B8 := bnext B7.out hb8
                go_wp2_with fail
                go_ret
                exact ⟨rfl, B8⟩
          · have ht : decide ((j : Int) < (i : Int) + (m : Int)) = true := by simp; omega
            have ht2 : decide ((i : Int) < (j : Int) + (m : Int)) = true := by simp; omega
            go_wp2_with fail
            refine (alive02 _).mono ?_
            rintro e w7 ⟨rfl, hb7⟩
            have B8 := bnext B5.out hb7
            go_wp2_with fail
            go_ret
            exact ⟨rfl, B8⟩
end Go.Proofs.Ytehicgndccnopaa
