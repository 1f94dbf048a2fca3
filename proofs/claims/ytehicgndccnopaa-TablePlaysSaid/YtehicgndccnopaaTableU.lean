/- The law TablePlays: the walk. -/
import Derived.Test.YtehicgndccnopaaTableT
namespace Go.Proofs.Ytehicgndccnopaa
open Go.RowKit
set_option linter.unusedVariables false
set_option linter.unusedSimpArgs false

set_option maxRecDepth 100000 in
set_option maxHeartbeats 16000000 in
theorem tablePlays_walk (W : World) (A : Option Addr) (len cap : Nat) (ts : List Ty) (h : TysIs W A len cap ts) (D : Option Addr) (len2 cap2 : Nat) (more : List Ty) (h2 : TysIs W D len2 cap2 more) (id : Int) (id0 : -9223372036854775808 ≤ id) (id1 : id ≤ 9223372036854775807) (n : Int) (n0 : -9223372036854775808 ≤ n) (n1 : n ≤ 9223372036854775807) :
    Calls Try.prog 14 #[.slice A len cap, .slice D len2 cap2, .int .i64 id, .int .i64 n] W fun e w' => e = .returned (.bool true) ∧ Below W.heap.size W w' := by
  have HH := Lib.hid h
  have HM := Lib.hid h2
  have hlen : len ≤ 9223372036854775807 := Nat.le_trans h.le h.mx
  have hlen2 : len2 ≤ 9223372036854775807 := Nat.le_trans h2.le h2.mx
  have ID0 := Lib.hid id0
  have ID1 := Lib.hid id1
  clear h h2 id0 id1 n0 n1
  by_cases hl : 100 < len
  · go_enter Try.func14, Try.ntmps14
    go_wp2_with fail
    refine (alive06 _).mono ?_
    rintro e w1 ⟨rfl, hb⟩
    go_wp2_with fail
    go_ret
    exact ⟨rfl, hb⟩
  by_cases hl2 : 100 < len2
  · go_enter Try.func14, Try.ntmps14
    go_wp2_with fail
    refine (alive06 _).mono ?_
    rintro e w1 ⟨rfl, hb⟩
    go_wp2_with fail
    go_ret
    exact ⟨rfl, hb⟩
  obtain ⟨i0, hi, hz0, hz1, hz2⟩ := info_parts Try.infoTy
  have HII := Lib.hid hi
  have Z0 := Lib.hid hz0
  have Z1 := Lib.hid hz1
  have Z2 := Lib.hid hz2
  clear hi hz0 hz1 hz2
  go_enter Try.func14, Try.ntmps14
  go_wp2_with fail
  refine (addT_nil _ 4 0 0).mono ?_
  rintro e w1 ⟨rfl, hb1⟩
  have B1 := Lib.hid hb1
  clear hb1
  go_wp2_with fail
  refine (getT_nil _ 1).mono ?_
  rintro e w2 ⟨rfl, hb2⟩
  have B2 := Lib.hid (bnext B1.out hb2)
  clear hb2
  go_wp2_with fail
  refine (sizeT_nil _ 1 1).mono ?_
  rintro e w3 ⟨rfl, hb3⟩
  have B3 := Lib.hid (bnext (balloc B2.out _) hb3)
  clear hb3
  go_wp2_with fail
  refine (lenT_nil _).mono ?_
  rintro e w' ⟨rfl, rfl⟩
  go_wp2_with fail
  refine (allT_nil _).mono ?_
  rintro e w' ⟨rfl, rfl⟩
  go_wp2_with fail
  refine (putT_nil _).mono ?_
  rintro e w' ⟨rfl, rfl⟩
  go_wp2_with fail
  refine (copyT_nil _).mono ?_
  rintro e w' ⟨rfl, rfl⟩
  have R3 := Lib.hid ((HH.out.r.below B3.out).more B3.out.size)
  have z3 := B3.out.size
  go_wp2_with (at_builtin; refine wpList_append_any _ rfl (.const (.slice none 0 0)) (.tmp 92) 69 rfl w3.heap.size 24 i0 (.agg #[.int .u8 0, .int .i64 0, .int .u64 0]) 3 24 Try.underlying69 HII.out Z0.out Z1.out Z2.out rfl (by decide) (.slice none 0 0) 0 [] rfl (World.ownsRow_nil _ _ _ _) w3.heap.size A len cap (ts.flatMap tyC) rfl R3.out (tysC_one ts) (by unfold maxLen; omega) (by omega) (Nat.le_refl _) ?_)
  intro v4 w4 hown4 hgr4 _
  have hb4 : Below w3.heap.size w3 w4 := (Below.refl _ w3).grown hgr4 (Nat.le_refl _) (by simp [Value.ownBlock])
  have B4 := Lib.hid (bnext B3.out hb4)
  obtain ⟨A4, c4, hv4, _⟩ := own_form hown4
  rw [hv4] at hown4 ⊢
  have R4 := Lib.hid (Reads.of_own (show w4.ownsRow w3.heap.size 24 3 (.slice A4 len c4) len (ts.flatMap tyC) by simpa using hown4))
  clear hown4 hgr4 hb4 hv4
  by_cases hN : newE [] ts = 0
  · have HN := Lib.hid hN
    clear hN
    go_wp2_with fail
    refine (newT_ok w4 A4 len c4 ts R4.out HH.out.len_ HH.out.ok (by omega) HN.out).mono ?_
    rintro e w5 ⟨tb, g, v, rfl, hI, hg, hb5⟩
    have hz4 := B4.out.size
    have I5 := Lib.hid hI
    have HG := Lib.hid hg
    have B5 := Lib.hid (bnext B4.out hb5)
    have R5 := Lib.hid ((HH.out.r.below B5.out).more B5.out.size)
    clear hI hg hb5
    go_wp2_with fail
    refine (rnew_any w5 A len cap ts R5.out HH.out.len_ HH.out.ok (by omega)).mono ?_
    rintro e w6 ⟨A6, m6, c6, rfl, hr6, hl6, hc6, hb6, hf6⟩
    rw [if_pos HN.out] at hr6 hl6
    rw [HN.out]
    have P6 := Lib.hid (show Plays W w6 tb g v A6 m6 ts from ⟨(I5.out.nx hb6).base hz4, by have := HG.out; omega, hr6, hl6, fun _ ad e => by have := hf6 ad e; have := I5.out.s.lt; have := I5.out.glt; omega, bnext B5.out hb6⟩)
    have hm6 : m6 ≤ 64 := by rw [← hl6]; exact I5.out.hi
    clear hr6 hl6 hb6 hf6 I5 HG B5 R5 R4 B4 hz4
    go_wp2_with fail
    go_loopw [16, 18, 20] (fun t r i wr => ∃ (k tb g : Nat) (v : Value) (A1 : Option Addr) (m c1 : Nat), k ≤ len2 ∧ i = .int .i64 (k : Int) ∧ t = .pointer (some ⟨tb, 0, none⟩) ∧ r = .slice A1 m c1 ∧ m ≤ c1 ∧ Plays W wr tb g v A1 m (pl ts more k)) (fun _ _ i _ => len2 - (intOf i).toNat)
    case atStart => exact ⟨0, tb, g, v, A6, m6, c6, by omega, rfl, rfl, rfl, hc6, P6.out⟩
    case round =>
      clear P6
      obtain ⟨k, tb, g, v, A1, m, c1, hk, rfl, rfl, rfl, hmc, hP⟩ := hrel
      obtain ⟨wo, rfl⟩ : ∃ wo : World, wo = wr := ⟨_, rfl⟩
      have hm64 : m ≤ 64 := by rw [← hP.len]; exact hP.t.hi
      have hszo := hP.b.size
      by_cases hlt : k < len2
      · obtain ⟨b, o, rfl, hb, d0, d1, d2⟩ := HM.out.r.ty hlt
        have hw := HM.out.ok _ (getD_mem more k (0, 0, 0) (by rw [HM.out.len_]; exact hlt))
        have HT := Lib.hid (pl_succ ts more k (by rw [HM.out.len_]; exact hlt))
        generalize more.getD k (0, 0, 0) = t at *
        obtain ⟨t1, t2, t3⟩ := t
        have D0 := Lib.hid d0
        have D1 := Lib.hid d1
        have D2 := Lib.hid d2
        have HW := Lib.hid hw
        have P := Lib.hid hP
        clear d0 d1 d2 hw hP
        generalize hLL : pl ts more k = L at *
        have HLL := Lib.hid hLL
        clear hLL
        by_cases hmod : (k : Int) % 5 = 4
        · have tm : ((k : Int) % 5 == 4) = true := by simpa using hmod
          clear hmod
          go_wp2_with fail
          refine (copyT_any wo _ tb g v L P.out.t).mono ?_
          rintro e w7 ⟨tb2, g2, v2, rfl, hI2, hg2, hb7⟩
          have I2 := Lib.hid hI2
          have HG2 := Lib.hid hg2
          have HB7 := Lib.hid hb7
          have P7 := Lib.hid (P.out.nx hb7)
          have hsz7 := P7.out.b.size
          clear hI2 hg2 hb7
          go_wp2_with fail
          refine (add_any w7 _ tb g v L P7.out.t hsz7 2 0 0 (by omega) (by omega) (by omega)).mono ?_
          rintro e w8 ⟨rfl, g', v', hI', hg', hT'⟩
          have P8 := Lib.hid (P.out.copy I2.out HG2.out HB7.out hT')
          generalize addN L (2, 0, 0) = aN
          generalize addE L (2, 0, 0) = aE
          clear hI' hg' hT' I2 HG2 HB7 P7 hsz7 tm
          have e0 := (P8.out.b.cell (p := ⟨b, o + k * 3, none⟩) hb).trans D0.out
          have e1 := (P8.out.b.cell (p := ⟨b, o + k * 3 + 1, none⟩) hb).trans D1.out
          have e2 := (P8.out.b.cell (p := ⟨b, o + k * 3 + 2, none⟩) hb).trans D2.out
          have hsz8 := P8.out.b.size
          go_wp2_with fail
          refine (add_any w8 _ tb2 g2 v2 L P8.out.t hsz8 t1 t2 t3 ⟨HW.out.k0, HW.out.k1⟩ ⟨HW.out.w0, HW.out.w1⟩ HW.out.m1).mono ?_
          rintro e w9 ⟨rfl, g3, v3, hI3, hg3, hT3⟩
          have hB9 := Below.touch P8.out.b P8.out.t.lo P8.out.hg (Nat.le_refl _) hT3
          have I3 := Lib.hid hI3
          have HG3 := Lib.hid hg3
          have HT3 := Lib.hid hT3
          have RR := Lib.hid (P8.out.r.touch P8.out.ap hT3)
          have e0 := (hB9.cell (p := ⟨b, o + k * 3, none⟩) hb).trans D0.out
          have e1 := (hB9.cell (p := ⟨b, o + k * 3 + 1, none⟩) hb).trans D1.out
          have e2 := (hB9.cell (p := ⟨b, o + k * 3 + 2, none⟩) hb).trans D2.out
          clear hI3 hg3 hT3 hB9
          go_wp2_with fail
          refine (radd_any w9 A1 m c1 L RR.out P8.out.len hmc (by omega) t1 t2 t3 ⟨HW.out.k0, HW.out.k1⟩ ⟨HW.out.w0, HW.out.w1⟩ HW.out.m1).mono ?_
          rintro e w10 ⟨A3, m3, c3, rfl, hR3, hl3, hc3, hb3, hf3⟩
          have P10 := Lib.hid (P8.out.add I3.out HG3.out HT3.out hR3 hl3 hf3 hb3)
          rw [← HT.out] at P10
          generalize addN L (t1, t2, t3) = a1
          generalize addE L (t1, t2, t3) = a2
          have r1 : (a1 != a1) = false := by simp
          have r2 : (a2 != a2) = false := by simp
          clear hR3 hl3 hf3 hb3 I3 HG3 HT3 RR e0 e1 e2
          go_wp2_with fail
          go_roundw
          case rel => exact ⟨k + 1, tb2, g3, v3, A3, m3, c3, by omega, by go_num, rfl, rfl, hc3, P10.out⟩
          case measure => simp [intOf]; omega
        · have tm : ((k : Int) % 5 == 4) = false := by simpa using hmod
          clear hmod
          obtain ⟨w8, hw8⟩ : ∃ w8, wo = w8 := ⟨_, rfl⟩
          obtain ⟨tb2, htb2⟩ : ∃ x, tb = x := ⟨_, rfl⟩
          obtain ⟨g2, hg2⟩ : ∃ x, g = x := ⟨_, rfl⟩
          obtain ⟨v2, hv2⟩ : ∃ x, v = x := ⟨_, rfl⟩
          subst hw8
          subst htb2
          subst hg2
          subst hv2
          have P8 := P
          clear P
          generalize wo = w8 at *
          generalize tb = tb2 at *
          generalize g = g2 at *
          generalize v = v2 at *
          have e0 := (P8.out.b.cell (p := ⟨b, o + k * 3, none⟩) hb).trans D0.out
          have e1 := (P8.out.b.cell (p := ⟨b, o + k * 3 + 1, none⟩) hb).trans D1.out
          have e2 := (P8.out.b.cell (p := ⟨b, o + k * 3 + 2, none⟩) hb).trans D2.out
          have hsz8 := P8.out.b.size
          go_wp2_with fail
          refine (add_any w8 _ tb2 g2 v2 L P8.out.t hsz8 t1 t2 t3 ⟨HW.out.k0, HW.out.k1⟩ ⟨HW.out.w0, HW.out.w1⟩ HW.out.m1).mono ?_
          rintro e w9 ⟨rfl, g3, v3, hI3, hg3, hT3⟩
          have hB9 := Below.touch P8.out.b P8.out.t.lo P8.out.hg (Nat.le_refl _) hT3
          have I3 := Lib.hid hI3
          have HG3 := Lib.hid hg3
          have HT3 := Lib.hid hT3
          have RR := Lib.hid (P8.out.r.touch P8.out.ap hT3)
          have e0 := (hB9.cell (p := ⟨b, o + k * 3, none⟩) hb).trans D0.out
          have e1 := (hB9.cell (p := ⟨b, o + k * 3 + 1, none⟩) hb).trans D1.out
          have e2 := (hB9.cell (p := ⟨b, o + k * 3 + 2, none⟩) hb).trans D2.out
          clear hI3 hg3 hT3 hB9
          go_wp2_with fail
          refine (radd_any w9 A1 m c1 L RR.out P8.out.len hmc (by omega) t1 t2 t3 ⟨HW.out.k0, HW.out.k1⟩ ⟨HW.out.w0, HW.out.w1⟩ HW.out.m1).mono ?_
          rintro e w10 ⟨A3, m3, c3, rfl, hR3, hl3, hc3, hb3, hf3⟩
          have P10 := Lib.hid (P8.out.add I3.out HG3.out HT3.out hR3 hl3 hf3 hb3)
          rw [← HT.out] at P10
          generalize addN L (t1, t2, t3) = a1
          generalize addE L (t1, t2, t3) = a2
          have r1 : (a1 != a1) = false := by simp
          have r2 : (a2 != a2) = false := by simp
          clear hR3 hl3 hf3 hb3 I3 HG3 HT3 RR e0 e1 e2
          go_wp2_with fail
          go_roundw
          case rel => exact ⟨k + 1, tb2, g3, v3, A3, m3, c3, by omega, by go_num, rfl, rfl, hc3, P10.out⟩
          case measure => simp [intOf]; omega
      · obtain rfl : k = len2 := by omega
        have hokL := pl_ok HH.out.ok HM.out.ok k (by rw [HM.out.len_]; exact Nat.le_refl _)
        generalize pl ts more k = L at *
        have HOK := Lib.hid hokL
        have P := Lib.hid hP
        clear hokL hP
        go_wp2_with fail
        refine (get_any wo _ tb g v L P.out.t id ID0.out ID1.out).mono ?_
        rintro e w7 ⟨rfl, hb7⟩
        have hT := getT_ok HOK.out id
        have P7 := Lib.hid ((P.out.nx hb7).nx ((Below.refl _ w7).alloc (Nat.le_refl _) (.cells #[.int .u8 (getT L id).1, .int .i64 (getT L id).2.1, .int .u64 ((getT L id).2.2 : Int)] 24)))
        have x7 := Blk.new w7 24 #[.int .u8 (getT L id).1, .int .i64 (getT L id).2.1, .int .u64 ((getT L id).2.2 : Int)]
        have X7 := Lib.hid x7
        clear hb7 hT x7
        go_wp2_with fail
        refine (rget_any _ A1 m c1 L P7.out.r P7.out.len (by omega) id ID0.out ID1.out).mono ?_
        rintro e w8 ⟨rfl, hb8⟩
        have P8 := Lib.hid ((P7.out.nx hb8).nx ((Below.refl _ w8).alloc (Nat.le_refl _) (.cells #[.int .u8 (getT L id).1, .int .i64 (getT L id).2.1, .int .u64 ((getT L id).2.2 : Int)] 24)))
        have X8 := Lib.hid ((X7.out.nx hb8).alloc (.cells #[.int .u8 (getT L id).1, .int .i64 (getT L id).2.1, .int .u64 ((getT L id).2.2 : Int)] 24))
        have Y8 := Lib.hid (Blk.new w8 24 #[.int .u8 (getT L id).1, .int .i64 (getT L id).2.1, .int .u64 ((getT L id).2.2 : Int)])
        clear hb8
        go_wp2_with fail
        refine (sizeT_any _ _ tb g v L P8.out.t HOK.out id n ID0.out ID1.out).mono ?_
        rintro e w9 ⟨rfl, hb9⟩
        have P9 := Lib.hid (P8.out.nx hb9)
        have X9 := Lib.hid (X8.out.nx hb9)
        have Y9 := Lib.hid (Y8.out.nx hb9)
        clear hb9
        go_wp2_with fail
        refine (rsizeT_any w9 A1 m c1 L P9.out.r P9.out.len HOK.out (by omega) id n ID0.out ID1.out).mono ?_
        rintro e w10 ⟨rfl, hb10⟩
        have P10 := Lib.hid (P9.out.nx hb10)
        obtain ⟨x0, x1, x2⟩ := (X9.out.nx hb10).c3
        obtain ⟨y0, y1, y2⟩ := (Y9.out.nx hb10).c3
        have LEN := Lib.hid P10.out.len
        clear hb10
        generalize getE L id = qE
        generalize szG L id n = qG
        generalize szE L id n = qS
        generalize getT L id = q at *
        obtain ⟨q1, q2, q3⟩ := q
        have r1 : (qE == qE) = true := by simp
        have r2 : (qG == qG) = true := by simp
        have r3 : (qS == qS) = true := by simp
        have r4 : (q1 == q1) = true := by simp
        have r5 : (q2 == q2) = true := by simp
        have r6 : ((q3 : Int) == (q3 : Int)) = true := by simp
        go_wp2_with fail
        refine (lenT_any w10 _ tb g v L P10.out.t).mono ?_
        rintro e w11 ⟨rfl, hb11⟩
        rw [LEN.out]
        have P11 := Lib.hid (P10.out.nx hb11)
        have r7 : ((m : Int) == (m : Int)) = true := by simp
        clear hb11 x0 x1 x2 y0 y1 y2
        go_wp2_with fail
        refine (allT_any w11 _ tb g v L P11.out.t).mono ?_
        rintro e w12 ⟨v12, rfl, hown, hb12⟩
        rw [LEN.out] at hown
        obtain ⟨A12, c12, hv12, _⟩ := own_form hown
        rw [hv12] at hown ⊢
        have R12 := Lib.hid (Reads.of_own hown)
        have P12 := Lib.hid (P11.out.nx hb12)
        clear hown hv12 hb12
        go_wp2_with fail
        refine (sameT_any w12 A12 A1 m c12 m c1 L L R12.out P12.out.r LEN.out LEN.out (by omega) (by omega)).mono ?_
        rintro e w13 ⟨rfl, hb13⟩
        rw [show decide (L = L) = true by simp]
        have P13 := Lib.hid (P12.out.nx hb13)
        clear hb13
        go_wp2_with fail
        refine (alive06 _).mono ?_
        rintro e w14 ⟨rfl, hb14⟩
        have B14 := Lib.hid (P13.out.nx hb14).b
        go_wp2_with fail
        go_ret
        exact ⟨rfl, B14.out⟩
  · have hne : (newE [] ts != 0) = true := by simpa using hN
    have HN := Lib.hid hN
    clear hN
    go_wp2_with fail
    refine (newT_no w4 A4 len c4 ts R4.out HH.out.len_ HH.out.ok (by omega) HN.out).mono ?_
    rintro e w5 ⟨rfl, hb5⟩
    have B5 := Lib.hid (bnext B4.out hb5)
    have R5 := Lib.hid ((HH.out.r.below B5.out).more B5.out.size)
    clear hb5
    go_wp2_with fail
    refine (rnew_any w5 A len cap ts R5.out HH.out.len_ HH.out.ok (by omega)).mono ?_
    rintro e w6 ⟨A6, m6, c6, rfl, hr6, hl6, hc6, hb6, hf6⟩
    have B6 := Lib.hid (bnext B5.out hb6)
    clear hr6 hl6 hb6 hf6
    generalize newE [] ts = X at *
    have ht : (X == X) = true := by simp
    go_wp2_with fail
    refine (alive06 _).mono ?_
    rintro e w7 ⟨rfl, hb7⟩
    have B7 := Lib.hid (bnext B6.out hb7)
    go_wp2_with fail
    go_ret
    exact ⟨rfl, B7.out⟩
end Go.Proofs.Ytehicgndccnopaa
