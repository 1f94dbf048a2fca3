/- The law HeadBack: the walk. -/
import Derived.Test.YtmjkohjijoddaaaDoorHeadL
namespace Go.Proofs.YtmjkohjijoddaaaDoor
open Go.RowKit
set_option linter.unusedVariables false
set_option linter.unusedSimpArgs false

theorem enc_facts {tg ty ln sz : Int} (h : okH tg ty ln sz = true) :
    0 ≤ encW tg ty ln sz ∧ encW tg ty ln sz < 18446744073709551616 ∧ okD (encW tg ty ln sz) = true ∧ dT (encW tg ty ln sz) = tg ∧ dY (encW tg ty ln sz) = ty ∧ dL (encW tg ty ln sz) = ln ∧ dS (encW tg ty ln sz) = sz ∧ decE (encW tg ty ln sz) = 0 := by
  have hb : 0 ≤ tg ∧ tg < 4 ∧ 0 ≤ ty ∧ ty < 4096 ∧ 0 ≤ ln ∧ ln < 16777216 ∧ 0 ≤ sz ∧ sz < 16777216 := by simp [okH] at h; omega
  have he : encW tg ty ln sz = tg + 4 * ty + 65536 * ln + 1099511627776 * sz := by simp [encW, h]
  obtain ⟨l0, h0, l1, h1, l2, h2, l3, h3⟩ := hb
  generalize encW tg ty ln sz = x at *
  have e0 : x % 4 = tg := by omega
  have e1 : x / 4 % 4096 = ty := by omega
  have e2 : x / 65536 % 16777216 = ln := by omega
  have e3 : x / 1099511627776 % 16777216 = sz := by omega
  have e4 : x / 16384 % 4 = 0 := by omega
  have hd : okD x = true := by simp [okD, e0, e1, e2, e3, e4, h]
  refine ⟨by omega, by omega, hd, ?_, ?_, ?_, ?_, ?_⟩ <;> simp only [dT, dY, dL, dS, decE, hd, if_true, e0, e1, e2, e3]

theorem enc_inj {tg ty ln sz tg' ty' ln' sz' : Int} (h : okH tg ty ln sz = true) (h' : okH tg' ty' ln' sz' = true) (e : encW tg ty ln sz = encW tg' ty' ln' sz') : tg = tg' ∧ ty = ty' ∧ ln = ln' ∧ sz = sz' := by
  have a := enc_facts h
  have b := enc_facts h'
  rw [← e] at b
  obtain ⟨_, _, _, a1, a2, a3, a4, _⟩ := a
  obtain ⟨_, _, _, b1, b2, b3, b4, _⟩ := b
  exact ⟨a1.symm.trans b1, a2.symm.trans b2, a3.symm.trans b3, a4.symm.trans b4⟩

theorem dec_facts {x : Int} (h0 : 0 ≤ x) (hx : x < 18446744073709551616) (h : okD x = true) : okH (dT x) (dY x) (dL x) (dS x) = true ∧ encW (dT x) (dY x) (dL x) (dS x) = x := by
  have e := okD_iff x h0 hx
  have hs : x / 1099511627776 % 16777216 = x / 1099511627776 := by omega
  rw [h] at e
  simp only [dT, dY, dL, dS, h, if_true, hs]
  have e' := e.symm
  rw [Bool.and_eq_true] at e'
  exact ⟨e'.1, by simpa using e'.2⟩

theorem dec_no {x : Int} (h : okD x = false) : dT x = 0 ∧ dY x = 0 ∧ dL x = 0 ∧ dS x = 0 ∧ decE x = 7 := by simp [dT, dY, dL, dS, decE, h]
theorem dec_yes {x : Int} (h : okD x = true) : decE x = 0 := by simp [decE, h]
theorem okcase_false {tg ty ln sz : Int} (h : okH tg ty ln sz = false) : encW tg ty ln sz = 0 := by simp [encW, h]

set_option maxHeartbeats 1000000 in
theorem headBack_walk (tg ty ln sz tg' ty' ln' sz' x : Int) (h0 : 0 ≤ x) (hx : x < 18446744073709551616) (w : World) (hF : Flds w) :
    Calls Tryd.prog 4 #[.agg #[.int .u8 tg, .int .i64 ty, .int .i64 ln, .int .i64 sz], .agg #[.int .u8 tg', .int .i64 ty', .int .i64 ln', .int .i64 sz'], .int .u64 x] w fun e w' => e = .returned (.bool true) ∧ Below w.heap.size w w' := by
  have HF := Lib.hid hF
  clear hF
  go_enter Tryd.func4, Tryd.ntmps4
  go_wp2_with fail
  refine (headEncode_any tg ty ln sz _ ((HF.out.al _).al _)).mono ?_
  rintro e w1 ⟨rfl, hb1⟩
  have F1 := Lib.hid (((HF.out.al _).al _).nx hb1)
  have b1 := ((Blk.new w 23 #[.int .u8 tg, .int .i64 ty, .int .i64 ln, .int .i64 sz]).alloc _).nx hb1
  have o1 := (Blk.new_at (w.alloc (.cells #[.int .u8 tg, .int .i64 ty, .int .i64 ln, .int .i64 sz] 23)) (w.heap.size + 1) 23 #[.int .u8 tg', .int .i64 ty', .int .i64 ln', .int .i64 sz'] (by simp)).nx hb1
  have B1 := bnext (balloc (balloc (Below.refl _ w) _) _) hb1
  clear hb1
  obtain ⟨c0, c1, c2, c3⟩ := o1.c4
  go_wp2_with fail
  refine (headEncode_any tg' ty' ln' sz' _ F1.out).mono ?_
  rintro e w2 ⟨rfl, hb2⟩
  have F2 := Lib.hid (F1.out.nx hb2)
  have b2 := b1.nx hb2
  have o2 := o1.nx hb2
  have B2 := bnext B1 hb2
  clear hb2 c0 c1 c2 c3 b1 o1 B1
  cases hok : okH tg ty ln sz
  · rw [chkH_no hok, okcase_false hok]
    generalize encW tg' ty' ln' sz' = b
    generalize chkH tg' ty' ln' sz' = f
    clear hok
    go_wp2_with fail
    all_goals refine (decI x h0 hx _ (by first | exact F2.out | exact F3.out.al _)).mono ?_
    all_goals rintro e w4 ⟨rfl, hb4⟩
    all_goals have B4 := bnext (by first | exact B2 | exact balloc B3 _) hb4
    all_goals have F4 : Hid (Flds w4) := Lib.hid (by first | exact F2.out.nx hb4 | exact (F3.out.al _).nx hb4)
    all_goals clear hb4
    all_goals cases hd : okD x
    all_goals first
      | (obtain ⟨z0, z1, z2, z3, z4⟩ := dec_no hd; rw [z0, z1, z2, z3, z4]; clear z0 z1 z2 z3 z4
         clear hd
         go_wp2_with fail
         refine (alive07 _ (F4.out.al _)).mono ?_
         rintro e w5 ⟨rfl, hb5⟩
         go_wp2_with fail
         go_ret
         exact ⟨rfl, bnext (balloc B4 _) hb5⟩)
      | (have HD := Lib.hid (dec_facts h0 hx hd)
         rw [dec_yes hd]
         clear hd
         go_wp2_with fail
         refine (headEncode_any (dT x) (dY x) (dL x) (dS x) _ (F4.out.al _)).mono ?_
         rintro e w5 ⟨rfl, hb5⟩
         rw [chkH_yes HD.out.1, HD.out.2]
         have B5 := bnext (balloc B4 _) hb5
         have F5 := Lib.hid ((F4.out.al _).nx hb5)
         clear hb5
         have hxx : (x == x) = true := by simp
         go_wp2_with fail
         refine (alive07 _ F5.out).mono ?_
         rintro e w6 ⟨rfl, hb6⟩
         go_wp2_with fail
         go_ret
         exact ⟨rfl, bnext B5 hb6⟩)
  · rw [chkH_yes hok]
    have HK := Lib.hid (enc_facts hok)
    have HOK := Lib.hid hok
    clear hok
    go_wp2_with fail
    refine (decI (encW tg ty ln sz) HK.out.1 HK.out.2.1 _ F2.out).mono ?_
    rintro e w3 ⟨rfl, hb3⟩
    rw [HK.out.2.2.2.1, HK.out.2.2.2.2.1, HK.out.2.2.2.2.2.1, HK.out.2.2.2.2.2.2.1, HK.out.2.2.2.2.2.2.2]
    have F3 := Lib.hid (F2.out.nx hb3)
    have b3 := b2.nx hb3
    have o3 := o2.nx hb3
    have B3 := bnext B2 hb3
    clear hb3 b2 o2 B2 F2
    obtain ⟨c0, c1, c2, c3⟩ := b3.c4
    obtain ⟨k0, k1, k2, k3⟩ := o3.c4
    have l3 := b3.lt
    have l3' := o3.lt
    cases ok2 : okH tg' ty' ln' sz'
    · rw [chkH_no ok2]
      generalize encW tg' ty' ln' sz' = b
      clear ok2
      go_wp2_with fail
      all_goals refine (decI x h0 hx _ (by first | exact F2.out | exact F3.out.al _)).mono ?_
      all_goals rintro e w4 ⟨rfl, hb4⟩
      all_goals have B4 := bnext (by first | exact B2 | exact balloc B3 _) hb4
      all_goals have F4 : Hid (Flds w4) := Lib.hid (by first | exact F2.out.nx hb4 | exact (F3.out.al _).nx hb4)
      all_goals clear hb4
      all_goals cases hd : okD x
      all_goals first
        | (obtain ⟨z0, z1, z2, z3, z4⟩ := dec_no hd; rw [z0, z1, z2, z3, z4]; clear z0 z1 z2 z3 z4
           clear hd
           go_wp2_with fail
           refine (alive07 _ (F4.out.al _)).mono ?_
           rintro e w5 ⟨rfl, hb5⟩
           go_wp2_with fail
           go_ret
           exact ⟨rfl, bnext (balloc B4 _) hb5⟩)
        | (have HD := Lib.hid (dec_facts h0 hx hd)
           rw [dec_yes hd]
           clear hd
           go_wp2_with fail
           refine (headEncode_any (dT x) (dY x) (dL x) (dS x) _ (F4.out.al _)).mono ?_
           rintro e w5 ⟨rfl, hb5⟩
           rw [chkH_yes HD.out.1, HD.out.2]
           have B5 := bnext (balloc B4 _) hb5
           have F5 := Lib.hid ((F4.out.al _).nx hb5)
           clear hb5
           have hxx : (x == x) = true := by simp
           go_wp2_with fail
           refine (alive07 _ F5.out).mono ?_
           rintro e w6 ⟨rfl, hb6⟩
           go_wp2_with fail
           go_ret
           exact ⟨rfl, bnext B5 hb6⟩)
    · rw [chkH_yes ok2]
      have HI := Lib.hid (enc_inj HOK.out ok2)
      clear ok2
      by_cases e0 : tg = tg'
      · subst e0
        by_cases e1 : ty = ty'
        · subst e1
          by_cases e2 : ln = ln'
          · subst e2
            by_cases e3 : sz = sz'
            · subst e3
              have ha : (encW tg ty ln sz == encW tg ty ln sz) = true := by simp
              generalize encW tg ty ln sz = a at *
              go_wp2_with fail
              all_goals refine (decI x h0 hx _ (by first | exact F2.out | exact F3.out.al _)).mono ?_
              all_goals rintro e w4 ⟨rfl, hb4⟩
              all_goals have B4 := bnext (by first | exact B2 | exact balloc B3 _) hb4
              all_goals have F4 : Hid (Flds w4) := Lib.hid (by first | exact F2.out.nx hb4 | exact (F3.out.al _).nx hb4)
              all_goals clear hb4
              all_goals cases hd : okD x
              all_goals first
                | (obtain ⟨z0, z1, z2, z3, z4⟩ := dec_no hd; rw [z0, z1, z2, z3, z4]; clear z0 z1 z2 z3 z4
                   clear hd
                   go_wp2_with fail
                   refine (alive07 _ (F4.out.al _)).mono ?_
                   rintro e w5 ⟨rfl, hb5⟩
                   go_wp2_with fail
                   go_ret
                   exact ⟨rfl, bnext (balloc B4 _) hb5⟩)
                | (have HD := Lib.hid (dec_facts h0 hx hd)
                   rw [dec_yes hd]
                   clear hd
                   go_wp2_with fail
                   refine (headEncode_any (dT x) (dY x) (dL x) (dS x) _ (F4.out.al _)).mono ?_
                   rintro e w5 ⟨rfl, hb5⟩
                   rw [chkH_yes HD.out.1, HD.out.2]
                   have B5 := bnext (balloc B4 _) hb5
                   have F5 := Lib.hid ((F4.out.al _).nx hb5)
                   clear hb5
                   have hxx : (x == x) = true := by simp
                   go_wp2_with fail
                   refine (alive07 _ F5.out).mono ?_
                   rintro e w6 ⟨rfl, hb6⟩
                   go_wp2_with fail
                   go_ret
                   exact ⟨rfl, bnext B5 hb6⟩)
            · have ha : (encW tg ty ln sz == encW tg ty ln sz') = false := beq_eq_false_iff_ne.2 fun e => e3 (HI.out e).2.2.2
              have d3 : (sz == sz') = false := by simpa using e3
              generalize encW tg ty ln sz = a at *
              generalize encW tg ty ln sz' = b at *
              clear e3
              go_wp2_with fail
              all_goals refine (decI x h0 hx _ (by first | exact F2.out | exact F3.out.al _)).mono ?_
              all_goals rintro e w4 ⟨rfl, hb4⟩
              all_goals have B4 := bnext (by first | exact B2 | exact balloc B3 _) hb4
              all_goals have F4 : Hid (Flds w4) := Lib.hid (by first | exact F2.out.nx hb4 | exact (F3.out.al _).nx hb4)
              all_goals clear hb4
              all_goals cases hd : okD x
              all_goals first
                | (obtain ⟨z0, z1, z2, z3, z4⟩ := dec_no hd; rw [z0, z1, z2, z3, z4]; clear z0 z1 z2 z3 z4
                   clear hd
                   go_wp2_with fail
                   refine (alive07 _ (F4.out.al _)).mono ?_
                   rintro e w5 ⟨rfl, hb5⟩
                   go_wp2_with fail
                   go_ret
                   exact ⟨rfl, bnext (balloc B4 _) hb5⟩)
                | (have HD := Lib.hid (dec_facts h0 hx hd)
                   rw [dec_yes hd]
                   clear hd
                   go_wp2_with fail
                   refine (headEncode_any (dT x) (dY x) (dL x) (dS x) _ (F4.out.al _)).mono ?_
                   rintro e w5 ⟨rfl, hb5⟩
                   rw [chkH_yes HD.out.1, HD.out.2]
                   have B5 := bnext (balloc B4 _) hb5
                   have F5 := Lib.hid ((F4.out.al _).nx hb5)
                   clear hb5
                   have hxx : (x == x) = true := by simp
                   go_wp2_with fail
                   refine (alive07 _ F5.out).mono ?_
                   rintro e w6 ⟨rfl, hb6⟩
                   go_wp2_with fail
                   go_ret
                   exact ⟨rfl, bnext B5 hb6⟩)
          · have ha : (encW tg ty ln sz == encW tg ty ln' sz') = false := beq_eq_false_iff_ne.2 fun e => e2 (HI.out e).2.2.1
            have d2 : (ln == ln') = false := by simpa using e2
            generalize encW tg ty ln sz = a at *
            generalize encW tg ty ln' sz' = b at *
            clear e2
            go_wp2_with fail
            all_goals refine (decI x h0 hx _ (by first | exact F2.out | exact F3.out.al _)).mono ?_
            all_goals rintro e w4 ⟨rfl, hb4⟩
            all_goals have B4 := bnext (by first | exact B2 | exact balloc B3 _) hb4
            all_goals have F4 : Hid (Flds w4) := Lib.hid (by first | exact F2.out.nx hb4 | exact (F3.out.al _).nx hb4)
            all_goals clear hb4
            all_goals cases hd : okD x
            all_goals first
              | (obtain ⟨z0, z1, z2, z3, z4⟩ := dec_no hd; rw [z0, z1, z2, z3, z4]; clear z0 z1 z2 z3 z4
                 clear hd
                 go_wp2_with fail
                 refine (alive07 _ (F4.out.al _)).mono ?_
                 rintro e w5 ⟨rfl, hb5⟩
                 go_wp2_with fail
                 go_ret
                 exact ⟨rfl, bnext (balloc B4 _) hb5⟩)
              | (have HD := Lib.hid (dec_facts h0 hx hd)
                 rw [dec_yes hd]
                 clear hd
                 go_wp2_with fail
                 refine (headEncode_any (dT x) (dY x) (dL x) (dS x) _ (F4.out.al _)).mono ?_
                 rintro e w5 ⟨rfl, hb5⟩
                 rw [chkH_yes HD.out.1, HD.out.2]
                 have B5 := bnext (balloc B4 _) hb5
                 have F5 := Lib.hid ((F4.out.al _).nx hb5)
                 clear hb5
                 have hxx : (x == x) = true := by simp
                 go_wp2_with fail
                 refine (alive07 _ F5.out).mono ?_
                 rintro e w6 ⟨rfl, hb6⟩
                 go_wp2_with fail
                 go_ret
                 exact ⟨rfl, bnext B5 hb6⟩)
        · have ha : (encW tg ty ln sz == encW tg ty' ln' sz') = false := beq_eq_false_iff_ne.2 fun e => e1 (HI.out e).2.1
          have d1 : (ty == ty') = false := by simpa using e1
          generalize encW tg ty ln sz = a at *
          generalize encW tg ty' ln' sz' = b at *
          clear e1
          go_wp2_with fail
          all_goals refine (decI x h0 hx _ (by first | exact F2.out | exact F3.out.al _)).mono ?_
          all_goals rintro e w4 ⟨rfl, hb4⟩
          all_goals have B4 := bnext (by first | exact B2 | exact balloc B3 _) hb4
          all_goals have F4 : Hid (Flds w4) := Lib.hid (by first | exact F2.out.nx hb4 | exact (F3.out.al _).nx hb4)
          all_goals clear hb4
          all_goals cases hd : okD x
          all_goals first
            | (obtain ⟨z0, z1, z2, z3, z4⟩ := dec_no hd; rw [z0, z1, z2, z3, z4]; clear z0 z1 z2 z3 z4
               clear hd
               go_wp2_with fail
               refine (alive07 _ (F4.out.al _)).mono ?_
               rintro e w5 ⟨rfl, hb5⟩
               go_wp2_with fail
               go_ret
               exact ⟨rfl, bnext (balloc B4 _) hb5⟩)
            | (have HD := Lib.hid (dec_facts h0 hx hd)
               rw [dec_yes hd]
               clear hd
               go_wp2_with fail
               refine (headEncode_any (dT x) (dY x) (dL x) (dS x) _ (F4.out.al _)).mono ?_
               rintro e w5 ⟨rfl, hb5⟩
               rw [chkH_yes HD.out.1, HD.out.2]
               have B5 := bnext (balloc B4 _) hb5
               have F5 := Lib.hid ((F4.out.al _).nx hb5)
               clear hb5
               have hxx : (x == x) = true := by simp
               go_wp2_with fail
               refine (alive07 _ F5.out).mono ?_
               rintro e w6 ⟨rfl, hb6⟩
               go_wp2_with fail
               go_ret
               exact ⟨rfl, bnext B5 hb6⟩)
      · have ha : (encW tg ty ln sz == encW tg' ty' ln' sz') = false := beq_eq_false_iff_ne.2 fun e => e0 (HI.out e).1
        have d0 : (tg == tg') = false := by simpa using e0
        generalize encW tg ty ln sz = a at *
        generalize encW tg' ty' ln' sz' = b at *
        clear e0
        go_wp2_with fail
        all_goals refine (decI x h0 hx _ (by first | exact F2.out | exact F3.out.al _)).mono ?_
        all_goals rintro e w4 ⟨rfl, hb4⟩
        all_goals have B4 := bnext (by first | exact B2 | exact balloc B3 _) hb4
        all_goals have F4 : Hid (Flds w4) := Lib.hid (by first | exact F2.out.nx hb4 | exact (F3.out.al _).nx hb4)
        all_goals clear hb4
        all_goals cases hd : okD x
        all_goals first
          | (obtain ⟨z0, z1, z2, z3, z4⟩ := dec_no hd; rw [z0, z1, z2, z3, z4]; clear z0 z1 z2 z3 z4
             clear hd
             go_wp2_with fail
             refine (alive07 _ (F4.out.al _)).mono ?_
             rintro e w5 ⟨rfl, hb5⟩
             go_wp2_with fail
             go_ret
             exact ⟨rfl, bnext (balloc B4 _) hb5⟩)
          | (have HD := Lib.hid (dec_facts h0 hx hd)
             rw [dec_yes hd]
             clear hd
             go_wp2_with fail
             refine (headEncode_any (dT x) (dY x) (dL x) (dS x) _ (F4.out.al _)).mono ?_
             rintro e w5 ⟨rfl, hb5⟩
             rw [chkH_yes HD.out.1, HD.out.2]
             have B5 := bnext (balloc B4 _) hb5
             have F5 := Lib.hid ((F4.out.al _).nx hb5)
             clear hb5
             have hxx : (x == x) = true := by simp
             go_wp2_with fail
             refine (alive07 _ F5.out).mono ?_
             rintro e w6 ⟨rfl, hb6⟩
             go_wp2_with fail
             go_ret
             exact ⟨rfl, bnext B5 hb6⟩)
end Go.Proofs.YtmjkohjijoddaaaDoor
