/- Shapes: Make. -/
import Derived.Test.YtmjkohjijoddaaaDoorShB
namespace Go.Proofs.YtmjkohjijoddaaaDoor
open Go.RowKit
set_option linter.unusedVariables false
set_option linter.unusedSimpArgs false

theorem szG_facts {ts : List Ty} {id n : Int} (h : szE ts id n = 0) : 1 ≤ id ∧ id ≤ ts.length ∧ 0 ≤ n ∧ n ≤ 4096 ∧ 1 ≤ szG ts id n ∧ szG ts id n ≤ 32769 := by
  unfold szE at h
  cases hi : inT ts id
  · rw [hi] at h; cases h
  · rw [hi, if_pos rfl] at h
    obtain ⟨_, ⟨n0, n1⟩, _⟩ := ofE_facts h
    obtain ⟨s0, s1⟩ := slotsV_bd h
    have hi' := hi
    simp only [inT, Bool.and_eq_true, decide_eq_true_eq] at hi'
    simp only [szG, hi, if_true, gS, h]
    refine ⟨hi'.1, hi'.2, n0, n1, by omega, by omega⟩
theorem okH_ob {ty ln sz : Int} (a : 1 ≤ ty) (b : ty ≤ 4095) (c : 0 ≤ ln) (d : ln ≤ 16777215) (e : 1 ≤ sz) (f : sz ≤ 16777215) : okH 1 ty ln sz = true := by
  simp [okH, a, b, c, d, e, f]

theorem granules_q (w : World) (bs br : Nat) (ws : List Int) (rs : List Value) (c : Nat) (h : IsAr w bs br ws rs c) :
    Calls Tryd.prog 51 #[.pointer (some ⟨bs, 0, none⟩)] w fun e w' => e = .returned (.int .i64 (grN ws)) ∧ w' = w :=
  (granules_any w bs br ws rs c h).mono fun _ _ h => ⟨h.1, h.2.symm⟩

section
variable (w : World) (bs br : Nat) (ws : List Int) (rs : List Value) (c : Nat) (h : IsAr w bs br ws rs c) (B tb tg : Nat) (v : Value) (ts : List Ty) (ht : IsTb w B tb tg v ts) (hok : ∀ t ∈ ts, OkW t) (hF : Flds w)
include h ht hok hF

set_option maxRecDepth 100000 in
set_option maxHeartbeats 4000000 in
theorem make_any (hts : ts.length ≤ 4095) (hc : c ≤ 900000000000) (g id n : Int) (g0 : -9223372036854775808 ≤ g) (g1 : g ≤ 9223372036854775807) (i0 : -9223372036854775808 ≤ id) (i1 : id ≤ 9223372036854775807) :
    Calls Tryd.prog 19 #[.pointer (some ⟨bs, 0, none⟩), .pointer (some ⟨tb, 0, none⟩), .int .i64 g, .int .i64 id, .int .i64 n] w fun e w' => e = .returned (.int .i64 (mkE ts ws g id n)) ∧ IsAr w' bs br (mkW ts ws g id n) rs (mkC ts ws g id n c) ∧ Touch bs br w w' := by
  have HI := Lib.hid h
  have HF := Lib.hid hF
  have HT := Lib.hid ht
  have HK := Lib.hid hok
  have HG := Lib.hid (fun W (hW : IsAr W bs br ws rs c) => granules_q W bs br ws rs c hW)
  have hL := h.hi
  have I0 := Lib.hid i0
  have I1 := Lib.hid i1
  clear hF ht hok h
  by_cases hE : szE ts id n = 0
  · obtain ⟨a1, a2, a3, a4, a5, a6⟩ := szG_facts hE
    have HE := Lib.hid hE
    have ho := Lib.hid (okH_ob (ty := id) (ln := n) (sz := szG ts id n) a1 (by omega) a3 (by omega) a5 (by omega))
    have z1 : hT (szE ts id n) = 1 := by simp [hT, hE]
    have z2 : ∀ x, hY (szE ts id n) x = x := fun x => by simp [hY, hE]
    by_cases hfit : 0 ≤ g ∧ g ≤ grN ws ∧ szG ts id n ≤ grN ws - g
    · have HV := Lib.hid (show mkE ts ws g id n = 0 by rw [mkE, if_pos hE, if_pos hfit])
      have HW := Lib.hid (show mkW ts ws g id n = (fillN ws (2 * g).toNat 0 (2 * szG ts id n).toNat).set (2 * g).toNat (encW 1 id n (szG ts id n)) by rw [mkW, if_pos HV.out])
      have HC := Lib.hid (show mkC ts ws g id n c = c + (2 * szG ts id n).toNat + 1 by rw [mkC, if_pos HV.out])
      generalize hGs : szG ts id n = S at *
      have HS := Lib.hid hGs
      obtain ⟨f1, f2, f3⟩ := hfit
      have hg2 : 0 ≤ 2 * g ∧ 0 ≤ 2 * S ∧ 2 * g ≤ ws.length ∧ 2 * S ≤ ws.length - 2 * g := by unfold grN at f2 f3; omega
      have HL := Lib.hid (fun W (hW : IsAr W bs br ws rs c) => fill_any W bs br ws rs c hW (2 * g) (2 * S) 0 (by omega) (by omega) (by omega) (by omega) (by omega))
      have HL2 := Lib.hid (fun W (hW : IsAr W bs br (fillN ws (2 * g).toNat 0 (2 * S).toNat) rs (c + (2 * S).toNat)) x => store_any W bs br _ rs _ hW (2 * g) x (by omega) (by omega) (by omega))
      have k1 := Lib.hid (hasE_is hg2)
      have k2 := Lib.hid (show hasE (fillN ws (2 * g).toNat 0 (2 * S).toNat).length (2 * g) 1 = 0 from hasE_is (by rw [fillN_length]; omega))
      have q1 := Lib.hid (show fiW ws (2 * g) (2 * S) 0 = fillN ws (2 * g).toNat 0 (2 * S).toNat by rw [fiW, if_pos k1.out])
      have q2 := Lib.hid (show fiC ws (2 * g) (2 * S) c = c + (2 * S).toNat by rw [fiC, if_pos k1.out])
      have q3 := Lib.hid (fun x => show stW (fillN ws (2 * g).toNat 0 (2 * S).toNat) (2 * g) x = (fillN ws (2 * g).toNat 0 (2 * S).toNat).set (2 * g).toNat x by rw [stW, if_pos k2.out])
      have q4 := Lib.hid (show stC (fillN ws (2 * g).toNat 0 (2 * S).toNat) (2 * g) (c + (2 * S).toNat) = c + (2 * S).toNat + 1 by rw [stC, if_pos k2.out])
      have hw2 : wrap64 (2 * g) = 2 * g := by simp [wrap64]; omega
      have hw3 : wrap64 (2 * S) = 2 * S := by simp [wrap64]; omega
      have d1 : decide (g < 0) = false := by simpa using f1
      have d2 : decide (grN ws < g) = false := by simpa using f2
      have d3 : decide (grN ws - g < S) = false := by simpa using f3
      have hGb : 0 ≤ grN ws ∧ grN ws ≤ 32768 := by unfold grN; omega
      have hw4 : wrap64 (grN ws - g) = grN ws - g := by simp [wrap64]; omega
      generalize grN ws = G at *
      clear f1 f2 f3 hg2 hE
      go_enter Tryd.func19, Tryd.ntmps19
      go_wp2_with fail
      refine (headOf_any _ _ tb tg v ts HT.out HK.out id n I0.out I1.out).mono ?_
      rintro e w1 ⟨rfl, hb⟩
      rw [HS.out, z1, z2, z2, z2, HE.out]
      have J1 := Lib.hid ((HI.out.nx hb).alloc (.cells #[.int .u8 1, .int .i64 id, .int .i64 n, .int .i64 S] 23))
      have F1 := Lib.hid ((HF.out.nx hb).al (.cells #[.int .u8 1, .int .i64 id, .int .i64 n, .int .i64 S] 23))
      have B1 := Lib.hid (balloc hb (.cells #[.int .u8 1, .int .i64 id, .int .i64 n, .int .i64 S] 23))
      have X1 := Lib.hid (Blk.new w1 23 #[.int .u8 1, .int .i64 id, .int .i64 n, .int .i64 S])
      obtain ⟨c0, c1, c2, c3⟩ := X1.out.c4
      clear hb z1 z2
      go_wp2_with fail
      go_quiet ((go_at_call 51; exact Calls.quiet_of_same (HG.out _ (by first | exact J1.out | exact J1.out.drewN _))))
      go_wp2_with fail
      refine (headEncode_any 1 id n S _ (F1.out.drewN _)).mono ?_
      rintro e w2 ⟨rfl, hb⟩
      rw [chkH_yes ho.out]
      have J2 := Lib.hid ((J1.out.drewN _).nx hb)
      have B2 := Lib.hid (bnext (bdrewN B1.out _) hb)
      have X2 := (X1.out.drewN _).nx hb
      obtain ⟨d0, d1, d2, d3⟩ := X2.c4
      clear hb c0 c1 c2 c3 X2
      generalize encW 1 id n S = E at *
      go_wp2_with fail
      refine (HL.out _ J2.out).mono ?_
      rintro e w3 ⟨rfl, hI, hT⟩
      rw [k1.out]
      rw [q1.out, q2.out] at hI
      have J3 := Lib.hid hI
      have T3 := Lib.hid hT
      clear hI hT d0 d1 d2 d3
      go_wp2_with fail
      refine (HL2.out _ J3.out E).mono ?_
      rintro e w4 ⟨rfl, hI, hT⟩
      rw [k2.out]
      rw [q3.out, q4.out] at hI
      go_wp2_with fail
      go_ret
      rw [HV.out, HW.out, HC.out]
      exact ⟨rfl, hI, ((Touch.of_below B2.out).trans T3.out).trans hT⟩
    · have HV := Lib.hid (show mkE ts ws g id n = 2 by rw [mkE, if_pos hE, if_neg hfit])
      have HW := Lib.hid (show mkW ts ws g id n = ws by rw [mkW, HV.out]; rfl)
      have HC := Lib.hid (show mkC ts ws g id n c = c by rw [mkC, HV.out]; rfl)
      generalize hGs : szG ts id n = S at *
      have HS := Lib.hid hGs
      have hGb : 0 ≤ grN ws ∧ grN ws ≤ 32768 := by unfold grN; omega
      have hcs : g < 0 ∨ (0 ≤ g ∧ grN ws < g) ∨ (0 ≤ g ∧ g ≤ grN ws ∧ grN ws - g < S) := by omega
      clear hfit hE
      go_enter Tryd.func19, Tryd.ntmps19
      go_wp2_with fail
      refine (headOf_any _ _ tb tg v ts HT.out HK.out id n I0.out I1.out).mono ?_
      rintro e w1 ⟨rfl, hb⟩
      rw [HS.out, z1, z2, z2, z2, HE.out]
      have J1 := Lib.hid ((HI.out.nx hb).alloc (.cells #[.int .u8 1, .int .i64 id, .int .i64 n, .int .i64 S] 23))
      have B1 := Lib.hid (balloc hb (.cells #[.int .u8 1, .int .i64 id, .int .i64 n, .int .i64 S] 23))
      have X1 := Lib.hid (Blk.new w1 23 #[.int .u8 1, .int .i64 id, .int .i64 n, .int .i64 S])
      obtain ⟨c0, c1, c2, c3⟩ := X1.out.c4
      clear hb z1 z2
      go_wp2_with fail
      rcases hcs with h1 | ⟨h1, h2⟩ | ⟨h1, h2, h3⟩
      · have d1 : decide (g < 0) = true := by simpa using h1
        generalize grN ws = G at *
        go_quiet (fail)
        go_wp2_with fail
        go_ret
        rw [HV.out, HW.out, HC.out]
        exact ⟨rfl, (J1.out.drewN _), Touch.of_below (bdrewN B1.out _)⟩
      · have d1 : decide (g < 0) = false := by simpa using h1
        have d2 : decide (grN ws < g) = true := by simpa using h2
        generalize grN ws = G at *
        go_quiet ((go_at_call 51; exact Calls.quiet_of_same (HG.out _ (by first | exact J1.out | exact J1.out.drewN _))))
        go_wp2_with fail
        go_ret
        rw [HV.out, HW.out, HC.out]
        exact ⟨rfl, (J1.out.drewN _), Touch.of_below (bdrewN B1.out _)⟩
      · have d1 : decide (g < 0) = false := by simpa using h1
        have d2 : decide (grN ws < g) = false := by simpa using h2
        have d3 : decide (grN ws - g < S) = true := by simpa using h3
        have hw4 : wrap64 (grN ws - g) = grN ws - g := by simp [wrap64]; omega
        generalize grN ws = G at *
        go_quiet ((go_at_call 51; exact Calls.quiet_of_same (HG.out _ (by first | exact J1.out | exact J1.out.drewN _))))
        go_wp2_with fail
        go_ret
        rw [HV.out, HW.out, HC.out]
        exact ⟨rfl, (J1.out.drewN _), Touch.of_below (bdrewN B1.out _)⟩
  · have HV := Lib.hid (show mkE ts ws g id n = szE ts id n by rw [mkE, if_neg hE])
    have HW := Lib.hid (show mkW ts ws g id n = ws by rw [mkW, HV.out, if_neg hE])
    have HC := Lib.hid (show mkC ts ws g id n c = c by rw [mkC, HV.out, if_neg hE])
    have hne : (szE ts id n != 0) = true := by simpa using hE
    have z1 : hT (szE ts id n) = 0 := by simp [hT, hE]
    have z2 : ∀ x, hY (szE ts id n) x = 0 := fun x => by simp [hY, hE]
    clear hE
    go_enter Tryd.func19, Tryd.ntmps19
    go_wp2_with fail
    refine (headOf_any _ _ tb tg v ts HT.out HK.out id n I0.out I1.out).mono ?_
    rintro e w1 ⟨rfl, hb⟩
    rw [z1, z2, z2, z2]
    generalize szE ts id n = S at *
    go_wp2_with fail
    go_ret
    rw [HV.out, HW.out, HC.out]
    exact ⟨rfl, (HI.out.nx hb).alloc _, Touch.of_below (balloc hb _)⟩
end

theorem make_nil (w : World) (t : Value) (g id n : Int) : Calls Tryd.prog 19 #[.pointer none, t, .int .i64 g, .int .i64 id, .int .i64 n] w fun e w' => e = .returned (.int .i64 1) ∧ w = w' := by
  go_enter Tryd.func19, Tryd.ntmps19
  go_wp2
  go_ret
  exact ⟨rfl, rfl⟩
end Go.Proofs.YtmjkohjijoddaaaDoor
