/- The law ArenaKeeps: the walk. -/
import Derived.Test.YtehicgndccnopaaArenaP
import Derived.Test.YtehicgndccnopaaArenaF
import Derived.Test.YtehicgndccnopaaFrame
namespace Go.Proofs.Ytehicgndccnopaa
open Go.RowKit
set_option linter.unusedVariables false
set_option linter.unusedSimpArgs false

theorem RowIs.spot {k : IntKind} {w : World} {A : Option Addr} {N cap : Nat} {zs : List Int} (h : RowIs k w A N cap zs) (hn : 0 < N) :
    ∃ b o, A = some ⟨b, o, none⟩ ∧ b < w.heap.size ∧ ∀ j, j < N → w.cell? ⟨b, o + j, none⟩ = some (.int k (zs.getD j 0)) := by
  obtain ⟨b, o, rfl, hb, hc⟩ := h.1.spot hn
  refine ⟨b, o, rfl, hb, fun j hj => hc j _ ?_⟩
  have := h.len_eq
  simp [List.getD, this, hj]

set_option maxRecDepth 100000 in
set_option maxHeartbeats 4000000 in
theorem arenaKeeps_ok (w : World) (A : Option Addr) (N cap : Nat) (zs : List Int) (h : RowIs .u64 w A N cap zs) (i n v a x : Int) (i0 : -9223372036854775808 ≤ i) (i1 : i ≤ 9223372036854775807) (n0 : -9223372036854775808 ≤ n) (n1 : n ≤ 9223372036854775807) (a0 : -9223372036854775808 ≤ a) (a1 : a ≤ 9223372036854775807)
    (h0 : 16 ≤ N) (h1 : N ≤ 400) (h2 : N % 2 = 0) :
    Calls Try.prog 7 #[.slice A N cap, .int .i64 i, .int .i64 n, .int .u64 v, .int .i64 a, .int .u64 x] w fun e w' => e = .returned (.bool true) ∧ Below w.heap.size w w' := by
  have hl := h.len_eq
  obtain ⟨b, o, rfl, hb, hcell⟩ := h.spot (by omega)
  have HC := Lib.hid hcell
  have HL := Lib.hid hl
  clear h hcell hl
  have NW := Lib.hid (fun W => new_ok W N (by omega) (by omega) h2)
  have t1 : (((N : Int) % 2) != 0) = false := by simp; omega
  have HG : Hid (∀ c, c < N → (stW (fiW zs i n v) a x).getD c 0 = if hasE N a 1 = 0 ∧ (c : Int) = a then x else if hasE N i n = 0 ∧ i ≤ (c : Int) ∧ (c : Int) - i < n then v else zs.getD c 0) := Lib.hid (fun c hc => by
    have hl := HL.out
    rw [stW_get (by rw [fiW_length]; omega), fiW_length, fiW_get (by omega), hl])
  have HLD : Hid (∀ c, c < N → ldV (stW (fiW zs i n v) a x) (c : Int) = (stW (fiW zs i n v) a x).getD c 0 ∧ hasE (stW (fiW zs i n v) a x).length (c : Int) 1 = 0) := Lib.hid (fun c hc => by
    have hl := HL.out
    have e : hasE (stW (fiW zs i n v) a x).length (c : Int) 1 = 0 := by rw [stW_length, fiW_length, hl]; exact hasE_is (by omega)
    exact ⟨by simp [ldV, e], e⟩)
  go_enter Try.func7, Try.ntmps7
  go_wp2_with fail
  refine (NW.out _).mono ?_
  rintro e w1 ⟨bs, br, rfl, hI, hs, hr, hb1⟩
  have I1 : Hid (IsAr w1 bs br (layW zs 0) [] 0) := Lib.hid (by rw [layW_zero, HL.out]; exact hI)
  have B1 := Lib.hid hb1
  clear hI hb1
  go_wp2_with fail
  go_loopw [15] (fun k wr => ∃ c : Nat, c ≤ N ∧ k = .int .i64 (c : Int) ∧ IsAr wr bs br (layW zs c) [] c ∧ Below w.heap.size w wr) (fun k _ => N - (intOf k).toNat)
  case atStart => exact ⟨0, by omega, rfl, I1.out, B1.out⟩
  case round =>
    obtain ⟨c, hc, rfl, hI, hB⟩ := hrel
    by_cases hlt : c < N
    · have k1 := (hB.cell (p := ⟨b, o + c, none⟩) hb).trans (HC.out c hlt)
      have hlt' : (c : Int) < (N : Int) := by omega
      have IC := Lib.hid hI
      have BC := Lib.hid hB
      clear hI hB
      have HS := Lib.hid (layW_succ (ws := zs) (c := c) (by rw [HL.out]; exact hlt))
      have HQ := Lib.hid (layW_c (ws := zs) (c := c) (by rw [HL.out]; exact hlt) c)
      have HE := Lib.hid (layW_has (ws := zs) (c := c) (by rw [HL.out]; exact hlt))
      generalize zs.getD c 0 = y at *
      go_wp2_with fail
      refine (store_any _ bs br _ [] c IC.out (c : Int) y (by omega) (by omega) (by omega)).mono ?_
      rintro e w2 ⟨rfl, hI, hT⟩
      rw [HE.out]
      rw [HS.out, HQ.out] at hI
      have I2 := Lib.hid hI
      have B2 := Lib.hid (btouch BC.out hs hr (Nat.le_refl _) hT)
      clear hI hT
      go_wp2_with fail
      go_roundw
      case rel => exact ⟨c + 1, by omega, by go_num, I2.out, B2.out⟩
      case measure => simp [intOf]; omega
    · obtain rfl : c = N := by omega
      rw [← HL.out, layW_all] at hI
      have IC : Hid (IsAr wr bs br zs [] c) := Lib.hid (by rw [HL.out] at hI; exact hI)
      have BC := Lib.hid hB
      clear hI hB
      go_wp2_with fail
      refine (fill_any _ bs br zs [] c IC.out i n v i0 i1 n0 n1 (by omega)).mono ?_
      rintro e w2 ⟨rfl, hI, hT⟩
      rw [HL.out]
      have I2 := Lib.hid hI
      have B2 := Lib.hid (btouch BC.out hs hr (Nat.le_refl _) hT)
      have hfc : fiC zs i n c ≤ 1000000 := by
        unfold fiC
        split
        · rename_i h; have := hasE_yes h; rw [HL.out] at this; omega
        · omega
      have HFC := Lib.hid hfc
      clear hI hT BC hfc
      go_wp2_with fail
      refine (store_any _ bs br (fiW zs i n v) [] _ I2.out a x a0 a1 (by have := HFC.out; omega)).mono ?_
      rintro e w3 ⟨rfl, hI, hT⟩
      rw [fiW_length, HL.out]
      have I3 := Lib.hid hI
      have B3 := Lib.hid (btouch B2.out hs hr (Nat.le_refl _) hT)
      clear hI hT B2 I2
      by_cases hf : hasE c i n = 0
      · by_cases hst : hasE c a 1 = 0
        · have HF := Lib.hid hf
          have HST := Lib.hid hst
          rw [hf]
          rw [hst]
          obtain ⟨f1, f2, f3, f4⟩ := hasE_yes hf
          obtain ⟨s1, _, s2, s3⟩ := hasE_yes hst
          clear hf hst
          go_wp2_with fail
          go_loopw [18] (fun k wr => ∃ q : Nat, q ≤ c ∧ k = .int .i64 (q : Int) ∧ w3 = wr) (fun k _ => c - (intOf k).toNat)
          case atStart => exact ⟨0, by omega, rfl, rfl⟩
          case round =>
            obtain ⟨q, hq, rfl, rfl⟩ := hrel
            by_cases hlt : q < c
            · have k1 := (B3.out.cell (p := ⟨b, o + q, none⟩) hb).trans (HC.out q hlt)
              have hlt' : (q : Int) < (c : Int) := by omega
              have hg := HG.out q hlt
              have hld := HLD.out q hlt
              by_cases ha : (q : Int) = a
              · have ta : ((q : Int) == a) = true := by simpa using ha
                have HA := Lib.hid ha
                clear ha
                rcases (by omega : ((q : Int) < i) ∨ (i ≤ (q : Int) ∧ n ≤ (q : Int) - i) ∨ (i ≤ (q : Int) ∧ (q : Int) - i < n)) with g1 | ⟨g1, g2⟩ | ⟨g1, g2⟩
                · have hgw := hg.trans ((if_pos ⟨HST.out, HA.out⟩))
                  have HLQ := Lib.hid hld
                  have HGW := Lib.hid hgw
                  clear hg hld hgw
                  generalize hz : zs.getD q 0 = z at *
                  have HZ := Lib.hid hz
                  clear hz
                  have tw : (x != x) = false := by simp
                  go_wp2_with fail
                  refine (load_any _ bs br _ [] _ I3.out (q : Int) (by omega) (by omega)).mono ?_
                  rintro e w' ⟨rfl, rfl⟩
                  rw [HLQ.out.2, HLQ.out.1, HGW.out]
                  go_wp2_with fail
                  go_roundw
                  case rel => exact ⟨q + 1, by omega, by go_num, by first | rfl | trivial⟩
                  case measure => simp [intOf]; omega
                · have hgw := hg.trans ((if_pos ⟨HST.out, HA.out⟩))
                  have HLQ := Lib.hid hld
                  have HGW := Lib.hid hgw
                  clear hg hld hgw
                  generalize hz : zs.getD q 0 = z at *
                  have HZ := Lib.hid hz
                  clear hz
                  have tw : (x != x) = false := by simp
                  go_wp2_with fail
                  refine (load_any _ bs br _ [] _ I3.out (q : Int) (by omega) (by omega)).mono ?_
                  rintro e w' ⟨rfl, rfl⟩
                  rw [HLQ.out.2, HLQ.out.1, HGW.out]
                  go_wp2_with fail
                  go_roundw
                  case rel => exact ⟨q + 1, by omega, by go_num, by first | rfl | trivial⟩
                  case measure => simp [intOf]; omega
                · have hgw := hg.trans ((if_pos ⟨HST.out, HA.out⟩))
                  have HLQ := Lib.hid hld
                  have HGW := Lib.hid hgw
                  clear hg hld hgw
                  generalize hz : zs.getD q 0 = z at *
                  have HZ := Lib.hid hz
                  clear hz
                  have tw : (x != x) = false := by simp
                  go_wp2_with fail
                  refine (load_any _ bs br _ [] _ I3.out (q : Int) (by omega) (by omega)).mono ?_
                  rintro e w' ⟨rfl, rfl⟩
                  rw [HLQ.out.2, HLQ.out.1, HGW.out]
                  go_wp2_with fail
                  go_roundw
                  case rel => exact ⟨q + 1, by omega, by go_num, by first | rfl | trivial⟩
                  case measure => simp [intOf]; omega
              · have ta : ((q : Int) == a) = false := by simpa using ha
                have HA := Lib.hid ha
                clear ha
                rcases (by omega : ((q : Int) < i) ∨ (i ≤ (q : Int) ∧ n ≤ (q : Int) - i) ∨ (i ≤ (q : Int) ∧ (q : Int) - i < n)) with g1 | ⟨g1, g2⟩ | ⟨g1, g2⟩
                · have hgw := hg.trans ((if_neg (fun y => HA.out y.2)).trans (if_neg (fun y => by have := y.2; omega)))
                  have HLQ := Lib.hid hld
                  have HGW := Lib.hid hgw
                  clear hg hld hgw
                  generalize hz : zs.getD q 0 = z at *
                  have HZ := Lib.hid hz
                  clear hz
                  have tw : (z != z) = false := by simp
                  go_wp2_with fail
                  refine (load_any _ bs br _ [] _ I3.out (q : Int) (by omega) (by omega)).mono ?_
                  rintro e w' ⟨rfl, rfl⟩
                  rw [HLQ.out.2, HLQ.out.1, HGW.out]
                  go_wp2_with fail
                  go_roundw
                  case rel => exact ⟨q + 1, by omega, by go_num, by first | rfl | trivial⟩
                  case measure => simp [intOf]; omega
                · have hgw := hg.trans ((if_neg (fun y => HA.out y.2)).trans (if_neg (fun y => by have := y.2; omega)))
                  have HLQ := Lib.hid hld
                  have HGW := Lib.hid hgw
                  clear hg hld hgw
                  generalize hz : zs.getD q 0 = z at *
                  have HZ := Lib.hid hz
                  clear hz
                  have tw : (z != z) = false := by simp
                  go_wp2_with fail
                  refine (load_any _ bs br _ [] _ I3.out (q : Int) (by omega) (by omega)).mono ?_
                  rintro e w' ⟨rfl, rfl⟩
                  rw [HLQ.out.2, HLQ.out.1, HGW.out]
                  go_wp2_with fail
                  go_roundw
                  case rel => exact ⟨q + 1, by omega, by go_num, by first | rfl | trivial⟩
                  case measure => simp [intOf]; omega
                · have hgw := hg.trans ((if_neg (fun y => HA.out y.2)).trans (if_pos ⟨HF.out, g1, g2⟩))
                  have HLQ := Lib.hid hld
                  have HGW := Lib.hid hgw
                  clear hg hld hgw
                  generalize hz : zs.getD q 0 = z at *
                  have HZ := Lib.hid hz
                  clear hz
                  have tw : (v != v) = false := by simp
                  go_wp2_with fail
                  refine (load_any _ bs br _ [] _ I3.out (q : Int) (by omega) (by omega)).mono ?_
                  rintro e w' ⟨rfl, rfl⟩
                  rw [HLQ.out.2, HLQ.out.1, HGW.out]
                  go_wp2_with fail
                  go_roundw
                  case rel => exact ⟨q + 1, by omega, by go_num, by first | rfl | trivial⟩
                  case measure => simp [intOf]; omega
            · obtain rfl : q = c := by omega
              try (have d1 : decide (a < (q : Int)) = false := by simp; omega)
              try (have d2 : decide (n ≤ (q : Int) - i) = false := by simp; omega)
              try (have d3 : decide (i ≤ (q : Int)) = false := by simp; omega)
              try (have d4 : decide (0 ≤ n) = false := by simp; omega)
              go_wp2_with fail
              refine (alive02 _).mono ?_
              rintro e w7 ⟨rfl, hb7⟩
              have B8 := bnext B3.out hb7
              go_wp2_with fail
              go_ret
              exact ⟨rfl, B8⟩
        · have HF := Lib.hid hf
          have HST := Lib.hid hst
          rw [hf]
          rw [hasE_no hst]
          obtain ⟨f1, f2, f3, f4⟩ := hasE_yes hf
          clear hf hst
          go_wp2_with fail
          go_loopw [18] (fun k wr => ∃ q : Nat, q ≤ c ∧ k = .int .i64 (q : Int) ∧ w3 = wr) (fun k _ => c - (intOf k).toNat)
          case atStart => exact ⟨0, by omega, rfl, rfl⟩
          case round =>
            obtain ⟨q, hq, rfl, rfl⟩ := hrel
            by_cases hlt : q < c
            · have k1 := (B3.out.cell (p := ⟨b, o + q, none⟩) hb).trans (HC.out q hlt)
              have hlt' : (q : Int) < (c : Int) := by omega
              have hg := HG.out q hlt
              have hld := HLD.out q hlt
              rcases (by omega : ((q : Int) < i) ∨ (i ≤ (q : Int) ∧ n ≤ (q : Int) - i) ∨ (i ≤ (q : Int) ∧ (q : Int) - i < n)) with g1 | ⟨g1, g2⟩ | ⟨g1, g2⟩
              · have hgw := hg.trans ((if_neg (fun y => HST.out y.1)).trans (if_neg (fun y => by have := y.2; omega)))
                have HLQ := Lib.hid hld
                have HGW := Lib.hid hgw
                clear hg hld hgw
                generalize hz : zs.getD q 0 = z at *
                have HZ := Lib.hid hz
                clear hz
                have tw : (z != z) = false := by simp
                go_wp2_with fail
                refine (load_any _ bs br _ [] _ I3.out (q : Int) (by omega) (by omega)).mono ?_
                rintro e w' ⟨rfl, rfl⟩
                rw [HLQ.out.2, HLQ.out.1, HGW.out]
                go_wp2_with fail
                go_roundw
                case rel => exact ⟨q + 1, by omega, by go_num, by first | rfl | trivial⟩
                case measure => simp [intOf]; omega
              · have hgw := hg.trans ((if_neg (fun y => HST.out y.1)).trans (if_neg (fun y => by have := y.2; omega)))
                have HLQ := Lib.hid hld
                have HGW := Lib.hid hgw
                clear hg hld hgw
                generalize hz : zs.getD q 0 = z at *
                have HZ := Lib.hid hz
                clear hz
                have tw : (z != z) = false := by simp
                go_wp2_with fail
                refine (load_any _ bs br _ [] _ I3.out (q : Int) (by omega) (by omega)).mono ?_
                rintro e w' ⟨rfl, rfl⟩
                rw [HLQ.out.2, HLQ.out.1, HGW.out]
                go_wp2_with fail
                go_roundw
                case rel => exact ⟨q + 1, by omega, by go_num, by first | rfl | trivial⟩
                case measure => simp [intOf]; omega
              · have hgw := hg.trans ((if_neg (fun y => HST.out y.1)).trans (if_pos ⟨HF.out, g1, g2⟩))
                have HLQ := Lib.hid hld
                have HGW := Lib.hid hgw
                clear hg hld hgw
                generalize hz : zs.getD q 0 = z at *
                have HZ := Lib.hid hz
                clear hz
                have tw : (v != v) = false := by simp
                go_wp2_with fail
                refine (load_any _ bs br _ [] _ I3.out (q : Int) (by omega) (by omega)).mono ?_
                rintro e w' ⟨rfl, rfl⟩
                rw [HLQ.out.2, HLQ.out.1, HGW.out]
                go_wp2_with fail
                go_roundw
                case rel => exact ⟨q + 1, by omega, by go_num, by first | rfl | trivial⟩
                case measure => simp [intOf]; omega
            · obtain rfl : q = c := by omega
              rcases (by have := hasE_fails HST.out; omega : a < 0 ∨ (0 ≤ a ∧ (q : Int) ≤ a)) with u1 | ⟨u1, u2⟩
              · try (have d1 : decide (a < (q : Int)) = false := by simp; omega)
                try (have d2 : decide (n ≤ (q : Int) - i) = false := by simp; omega)
                try (have d3 : decide (i ≤ (q : Int)) = false := by simp; omega)
                try (have d4 : decide (0 ≤ n) = false := by simp; omega)
                go_wp2_with fail
                refine (alive02 _).mono ?_
                rintro e w7 ⟨rfl, hb7⟩
                have B8 := bnext B3.out hb7
                go_wp2_with fail
                go_ret
                exact ⟨rfl, B8⟩
              · try (have d1 : decide (a < (q : Int)) = false := by simp; omega)
                try (have d2 : decide (n ≤ (q : Int) - i) = false := by simp; omega)
                try (have d3 : decide (i ≤ (q : Int)) = false := by simp; omega)
                try (have d4 : decide (0 ≤ n) = false := by simp; omega)
                go_wp2_with fail
                refine (alive02 _).mono ?_
                rintro e w7 ⟨rfl, hb7⟩
                have B8 := bnext B3.out hb7
                go_wp2_with fail
                go_ret
                exact ⟨rfl, B8⟩
      · by_cases hst : hasE c a 1 = 0
        · have HF := Lib.hid hf
          have HST := Lib.hid hst
          rw [hasE_no hf]
          rw [hst]
          obtain ⟨s1, _, s2, s3⟩ := hasE_yes hst
          clear hf hst
          go_wp2_with fail
          go_loopw [18] (fun k wr => ∃ q : Nat, q ≤ c ∧ k = .int .i64 (q : Int) ∧ w3 = wr) (fun k _ => c - (intOf k).toNat)
          case atStart => exact ⟨0, by omega, rfl, rfl⟩
          case round =>
            obtain ⟨q, hq, rfl, rfl⟩ := hrel
            by_cases hlt : q < c
            · have k1 := (B3.out.cell (p := ⟨b, o + q, none⟩) hb).trans (HC.out q hlt)
              have hlt' : (q : Int) < (c : Int) := by omega
              have hg := HG.out q hlt
              have hld := HLD.out q hlt
              by_cases ha : (q : Int) = a
              · have ta : ((q : Int) == a) = true := by simpa using ha
                have HA := Lib.hid ha
                clear ha
                have hgw := hg.trans ((if_pos ⟨HST.out, HA.out⟩))
                have HLQ := Lib.hid hld
                have HGW := Lib.hid hgw
                clear hg hld hgw
                generalize hz : zs.getD q 0 = z at *
                have HZ := Lib.hid hz
                clear hz
                have tw : (x != x) = false := by simp
                go_wp2_with fail
                refine (load_any _ bs br _ [] _ I3.out (q : Int) (by omega) (by omega)).mono ?_
                rintro e w' ⟨rfl, rfl⟩
                rw [HLQ.out.2, HLQ.out.1, HGW.out]
                go_wp2_with fail
                go_roundw
                case rel => exact ⟨q + 1, by omega, by go_num, by first | rfl | trivial⟩
                case measure => simp [intOf]; omega
              · have ta : ((q : Int) == a) = false := by simpa using ha
                have HA := Lib.hid ha
                clear ha
                have hgw := hg.trans ((if_neg (fun y => HA.out y.2)).trans (if_neg (fun y => HF.out y.1)))
                have HLQ := Lib.hid hld
                have HGW := Lib.hid hgw
                clear hg hld hgw
                generalize hz : zs.getD q 0 = z at *
                have HZ := Lib.hid hz
                clear hz
                have tw : (z != z) = false := by simp
                go_wp2_with fail
                refine (load_any _ bs br _ [] _ I3.out (q : Int) (by omega) (by omega)).mono ?_
                rintro e w' ⟨rfl, rfl⟩
                rw [HLQ.out.2, HLQ.out.1, HGW.out]
                go_wp2_with fail
                go_roundw
                case rel => exact ⟨q + 1, by omega, by go_num, by first | rfl | trivial⟩
                case measure => simp [intOf]; omega
            · obtain rfl : q = c := by omega
              rcases hasE_fails HF.out with u1 | ⟨u1, u2⟩ | ⟨u1, u2, u3⟩ | ⟨u1, u2, u3, u4⟩
              · try (have d1 : decide (a < (q : Int)) = false := by simp; omega)
                try (have d2 : decide (n ≤ (q : Int) - i) = false := by simp; omega)
                try (have d3 : decide (i ≤ (q : Int)) = false := by simp; omega)
                try (have d4 : decide (0 ≤ n) = false := by simp; omega)
                go_wp2_with fail
                refine (alive02 _).mono ?_
                rintro e w7 ⟨rfl, hb7⟩
                have B8 := bnext B3.out hb7
                go_wp2_with fail
                go_ret
                exact ⟨rfl, B8⟩
              · try (have d1 : decide (a < (q : Int)) = false := by simp; omega)
                try (have d2 : decide (n ≤ (q : Int) - i) = false := by simp; omega)
                try (have d3 : decide (i ≤ (q : Int)) = false := by simp; omega)
                try (have d4 : decide (0 ≤ n) = false := by simp; omega)
                go_wp2_with fail
                refine (alive02 _).mono ?_
                rintro e w7 ⟨rfl, hb7⟩
                have B8 := bnext B3.out hb7
                go_wp2_with fail
                go_ret
                exact ⟨rfl, B8⟩
              · try (have d1 : decide (a < (q : Int)) = false := by simp; omega)
                try (have d2 : decide (n ≤ (q : Int) - i) = false := by simp; omega)
                try (have d3 : decide (i ≤ (q : Int)) = false := by simp; omega)
                try (have d4 : decide (0 ≤ n) = false := by simp; omega)
                go_wp2_with fail
                refine (alive02 _).mono ?_
                rintro e w7 ⟨rfl, hb7⟩
                have B8 := bnext B3.out hb7
                go_wp2_with fail
                go_ret
                exact ⟨rfl, B8⟩
              · try (have d1 : decide (a < (q : Int)) = false := by simp; omega)
                try (have d2 : decide (n ≤ (q : Int) - i) = false := by simp; omega)
                try (have d3 : decide (i ≤ (q : Int)) = false := by simp; omega)
                try (have d4 : decide (0 ≤ n) = false := by simp; omega)
                go_wp2_with fail
                refine (alive02 _).mono ?_
                rintro e w7 ⟨rfl, hb7⟩
                have B8 := bnext B3.out hb7
                go_wp2_with fail
                go_ret
                exact ⟨rfl, B8⟩
        · have HF := Lib.hid hf
          have HST := Lib.hid hst
          rw [hasE_no hf]
          rw [hasE_no hst]
          clear hf hst
          go_wp2_with fail
          go_loopw [18] (fun k wr => ∃ q : Nat, q ≤ c ∧ k = .int .i64 (q : Int) ∧ w3 = wr) (fun k _ => c - (intOf k).toNat)
          case atStart => exact ⟨0, by omega, rfl, rfl⟩
          case round =>
            obtain ⟨q, hq, rfl, rfl⟩ := hrel
            by_cases hlt : q < c
            · have k1 := (B3.out.cell (p := ⟨b, o + q, none⟩) hb).trans (HC.out q hlt)
              have hlt' : (q : Int) < (c : Int) := by omega
              have hg := HG.out q hlt
              have hld := HLD.out q hlt
              have hgw := hg.trans ((if_neg (fun y => HST.out y.1)).trans (if_neg (fun y => HF.out y.1)))
              have HLQ := Lib.hid hld
              have HGW := Lib.hid hgw
              clear hg hld hgw
              generalize hz : zs.getD q 0 = z at *
              have HZ := Lib.hid hz
              clear hz
              have tw : (z != z) = false := by simp
              go_wp2_with fail
              refine (load_any _ bs br _ [] _ I3.out (q : Int) (by omega) (by omega)).mono ?_
              rintro e w' ⟨rfl, rfl⟩
              rw [HLQ.out.2, HLQ.out.1, HGW.out]
              go_wp2_with fail
              go_roundw
              case rel => exact ⟨q + 1, by omega, by go_num, by first | rfl | trivial⟩
              case measure => simp [intOf]; omega
            · obtain rfl : q = c := by omega
              rcases (by have := hasE_fails HST.out; omega : a < 0 ∨ (0 ≤ a ∧ (q : Int) ≤ a)) with u1 | ⟨u1, u2⟩
              · rcases hasE_fails HF.out with v1 | ⟨v1, v2⟩ | ⟨v1, v2, v3⟩ | ⟨v1, v2, v3, v4⟩
                · try (have d1 : decide (a < (q : Int)) = false := by simp; omega)
                  try (have d2 : decide (n ≤ (q : Int) - i) = false := by simp; omega)
                  try (have d3 : decide (i ≤ (q : Int)) = false := by simp; omega)
                  try (have d4 : decide (0 ≤ n) = false := by simp; omega)
                  go_wp2_with fail
                  refine (alive02 _).mono ?_
                  rintro e w7 ⟨rfl, hb7⟩
                  have B8 := bnext B3.out hb7
                  go_wp2_with fail
                  go_ret
                  exact ⟨rfl, B8⟩
                · try (have d1 : decide (a < (q : Int)) = false := by simp; omega)
                  try (have d2 : decide (n ≤ (q : Int) - i) = false := by simp; omega)
                  try (have d3 : decide (i ≤ (q : Int)) = false := by simp; omega)
                  try (have d4 : decide (0 ≤ n) = false := by simp; omega)
                  go_wp2_with fail
                  refine (alive02 _).mono ?_
                  rintro e w7 ⟨rfl, hb7⟩
                  have B8 := bnext B3.out hb7
                  go_wp2_with fail
                  go_ret
                  exact ⟨rfl, B8⟩
                · try (have d1 : decide (a < (q : Int)) = false := by simp; omega)
                  try (have d2 : decide (n ≤ (q : Int) - i) = false := by simp; omega)
                  try (have d3 : decide (i ≤ (q : Int)) = false := by simp; omega)
                  try (have d4 : decide (0 ≤ n) = false := by simp; omega)
                  go_wp2_with fail
                  refine (alive02 _).mono ?_
                  rintro e w7 ⟨rfl, hb7⟩
                  have B8 := bnext B3.out hb7
                  go_wp2_with fail
                  go_ret
                  exact ⟨rfl, B8⟩
                · try (have d1 : decide (a < (q : Int)) = false := by simp; omega)
                  try (have d2 : decide (n ≤ (q : Int) - i) = false := by simp; omega)
                  try (have d3 : decide (i ≤ (q : Int)) = false := by simp; omega)
                  try (have d4 : decide (0 ≤ n) = false := by simp; omega)
                  go_wp2_with fail
                  refine (alive02 _).mono ?_
                  rintro e w7 ⟨rfl, hb7⟩
                  have B8 := bnext B3.out hb7
                  go_wp2_with fail
                  go_ret
                  exact ⟨rfl, B8⟩
              · rcases hasE_fails HF.out with v1 | ⟨v1, v2⟩ | ⟨v1, v2, v3⟩ | ⟨v1, v2, v3, v4⟩
                · try (have d1 : decide (a < (q : Int)) = false := by simp; omega)
                  try (have d2 : decide (n ≤ (q : Int) - i) = false := by simp; omega)
                  try (have d3 : decide (i ≤ (q : Int)) = false := by simp; omega)
                  try (have d4 : decide (0 ≤ n) = false := by simp; omega)
                  go_wp2_with fail
                  refine (alive02 _).mono ?_
                  rintro e w7 ⟨rfl, hb7⟩
                  have B8 := bnext B3.out hb7
                  go_wp2_with fail
                  go_ret
                  exact ⟨rfl, B8⟩
                · try (have d1 : decide (a < (q : Int)) = false := by simp; omega)
                  try (have d2 : decide (n ≤ (q : Int) - i) = false := by simp; omega)
                  try (have d3 : decide (i ≤ (q : Int)) = false := by simp; omega)
                  try (have d4 : decide (0 ≤ n) = false := by simp; omega)
                  go_wp2_with fail
                  refine (alive02 _).mono ?_
                  rintro e w7 ⟨rfl, hb7⟩
                  have B8 := bnext B3.out hb7
                  go_wp2_with fail
                  go_ret
                  exact ⟨rfl, B8⟩
                · try (have d1 : decide (a < (q : Int)) = false := by simp; omega)
                  try (have d2 : decide (n ≤ (q : Int) - i) = false := by simp; omega)
                  try (have d3 : decide (i ≤ (q : Int)) = false := by simp; omega)
                  try (have d4 : decide (0 ≤ n) = false := by simp; omega)
                  go_wp2_with fail
                  refine (alive02 _).mono ?_
                  rintro e w7 ⟨rfl, hb7⟩
                  have B8 := bnext B3.out hb7
                  go_wp2_with fail
                  go_ret
                  exact ⟨rfl, B8⟩
                · try (have d1 : decide (a < (q : Int)) = false := by simp; omega)
                  try (have d2 : decide (n ≤ (q : Int) - i) = false := by simp; omega)
                  try (have d3 : decide (i ≤ (q : Int)) = false := by simp; omega)
                  try (have d4 : decide (0 ≤ n) = false := by simp; omega)
                  go_wp2_with fail
                  refine (alive02 _).mono ?_
                  rintro e w7 ⟨rfl, hb7⟩
                  have B8 := bnext B3.out hb7
                  go_wp2_with fail
                  go_ret
                  exact ⟨rfl, B8⟩
end Go.Proofs.Ytehicgndccnopaa
