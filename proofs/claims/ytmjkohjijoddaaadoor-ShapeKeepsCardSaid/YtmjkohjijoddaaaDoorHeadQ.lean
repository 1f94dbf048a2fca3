/- Headers that fit: head.Fits, the document's. -/
import Derived.Test.YtmjkohjijoddaaaDoorHeadP
namespace Go.Proofs.YtmjkohjijoddaaaDoor
open Go.RowKit
set_option linter.unusedVariables false
set_option linter.unusedSimpArgs false

set_option maxRecDepth 100000 in
set_option maxHeartbeats 4000000 in
theorem headFits_gen (w : World) (p : Option Addr) (tg ty ln sz E G : Int) (hF : Flds w) (HC : ∀ W, Below w.heap.size w W → Calls Tryd.prog 28 #[.pointer p, .int .i64 ty, .int .i64 ln] W (GivesHead E ty ln G W)) :
    Calls Tryd.prog 30 #[.pointer p, .agg #[.int .u8 tg, .int .i64 ty, .int .i64 ln, .int .i64 sz]] w fun e w' => e = .returned (.int .i64 (fitV E G tg ty ln sz)) ∧ Below w.heap.size w w' := by
  have H := Lib.hid HC
  clear HC
  have HF := Lib.hid hF
  clear hF
  cases ho : okH tg ty ln sz
  · have HO := Lib.hid ho
    have HV := Lib.hid (show fitV E G tg ty ln sz = 2 by simp [fitV, ho])
    clear ho
    go_enter Tryd.func30, Tryd.ntmps30
    go_wp2_with fail
    refine (headCheck_any tg ty ln sz _ (HF.out.al _)).mono ?_
    rintro e w1 ⟨rfl, hb⟩
    rw [chkH_no HO.out]
    have hB := bnext (balloc (Below.refl _ w) _) hb
    clear hb
    go_wp2_with fail
    go_ret
    exact ⟨by rw [HV.out]; rfl, hB⟩
  · have HO := Lib.hid ho
    by_cases ht : tg = 1
    · subst ht
      by_cases hE : E = 0
      · subst hE
        by_cases hG : G = sz
        · subst hG
          have HV := Lib.hid (show fitV 0 G 1 ty ln G = 0 by simp [fitV, ho])
          clear ho
          go_enter Tryd.func30, Tryd.ntmps30
          go_wp2_with fail
          refine (headCheck_any 1 ty ln G _ (HF.out.al _)).mono ?_
          rintro e w1 ⟨rfl, hb⟩
          rw [chkH_yes HO.out]
          have hB := Lib.hid (bnext (balloc (Below.refl _ w) _) hb)
          have b1 := (Blk.new w 23 #[.int .u8 1, .int .i64 ty, .int .i64 ln, .int .i64 G]).nx hb
          obtain ⟨c0, c1, c2, c3⟩ := b1.c4
          have BB := Lib.hid b1
          clear hb b1
          go_wp2_with fail
          refine (H.out _ hB.out).mono ?_
          rintro e w2 ⟨rfl, hb⟩
          have hB2 := bnext hB.out hb
          obtain ⟨d0, d1, d2, d3⟩ := (BB.out.nx hb).c4
          have hlt := (BB.out.nx hb).lt
          clear hb c0 c1 c2 c3
          have r1 : (ty == ty) = true := by simp
          have r2 : (ln == ln) = true := by simp
          have r3 : (G == G) = true := by simp
          have hh1 : hT 0 = 1 := by simp [hT]
          have hh2 : ∀ x, hY 0 x = x := fun x => by simp [hY]
          rw [hh1, hh2, hh2, hh2]
          clear hh1 hh2
          go_wp2_with fail
          go_ret
          exact ⟨by rw [HV.out]; rfl, balloc hB2 _⟩
        · have HV := Lib.hid (show fitV 0 G 1 ty ln sz = 8 by simp [fitV, ho, hG])
          have r3 : (G == sz) = false := by simpa using hG
          clear ho hG
          go_enter Tryd.func30, Tryd.ntmps30
          go_wp2_with fail
          refine (headCheck_any 1 ty ln sz _ (HF.out.al _)).mono ?_
          rintro e w1 ⟨rfl, hb⟩
          rw [chkH_yes HO.out]
          have hB := Lib.hid (bnext (balloc (Below.refl _ w) _) hb)
          have b1 := (Blk.new w 23 #[.int .u8 1, .int .i64 ty, .int .i64 ln, .int .i64 sz]).nx hb
          obtain ⟨c0, c1, c2, c3⟩ := b1.c4
          have BB := Lib.hid b1
          clear hb b1
          go_wp2_with fail
          refine (H.out _ hB.out).mono ?_
          rintro e w2 ⟨rfl, hb⟩
          have hB2 := bnext hB.out hb
          obtain ⟨d0, d1, d2, d3⟩ := (BB.out.nx hb).c4
          have hlt := (BB.out.nx hb).lt
          clear hb c0 c1 c2 c3
          have r1 : (ty == ty) = true := by simp
          have r2 : (ln == ln) = true := by simp
          have hh1 : hT 0 = 1 := by simp [hT]
          have hh2 : ∀ x, hY 0 x = x := fun x => by simp [hY]
          rw [hh1, hh2, hh2, hh2]
          clear hh1 hh2
          go_wp2_with fail
          go_ret
          exact ⟨by rw [HV.out]; rfl, balloc hB2 _⟩
      · have HV := Lib.hid (show fitV E G 1 ty ln sz = 8 by simp [fitV, ho, hE])
        have hne : (E != 0) = true := by simpa using hE
        have HE := Lib.hid hE
        clear ho hE
        go_enter Tryd.func30, Tryd.ntmps30
        go_wp2_with fail
        refine (headCheck_any 1 ty ln sz _ (HF.out.al _)).mono ?_
        rintro e w1 ⟨rfl, hb⟩
        rw [chkH_yes HO.out]
        have hB := Lib.hid (bnext (balloc (Below.refl _ w) _) hb)
        have b1 := (Blk.new w 23 #[.int .u8 1, .int .i64 ty, .int .i64 ln, .int .i64 sz]).nx hb
        obtain ⟨c0, c1, c2, c3⟩ := b1.c4
        have BB := Lib.hid b1
        clear hb b1
        go_wp2_with fail
        refine (H.out _ hB.out).mono ?_
        rintro e w2 ⟨rfl, hb⟩
        have hB2 := bnext hB.out hb
        obtain ⟨d0, d1, d2, d3⟩ := (BB.out.nx hb).c4
        have hlt := (BB.out.nx hb).lt
        clear hb c0 c1 c2 c3
        rw [hT_no HE.out, hY_no HE.out, hY_no HE.out, hY_no HE.out]
        go_wp2_with fail
        go_ret
        exact ⟨by rw [HV.out]; rfl, balloc hB2 _⟩
    · have HV := Lib.hid (show fitV E G tg ty ln sz = 0 by simp [fitV, ho, ht])
      have hne : (tg != 1) = true := by simpa using ht
      clear ho ht
      have b0 := Blk.new w 23 #[.int .u8 tg, .int .i64 ty, .int .i64 ln, .int .i64 sz]
      go_enter Tryd.func30, Tryd.ntmps30
      go_wp2_with fail
      refine (headCheck_any tg ty ln sz _ (HF.out.al _)).mono ?_
      rintro e w1 ⟨rfl, hb⟩
      rw [chkH_yes HO.out]
      have hB := bnext (balloc (Below.refl _ w) _) hb
      obtain ⟨c0, c1, c2, c3⟩ := (b0.nx hb).c4
      clear hb b0
      go_wp2_with fail
      go_ret
      exact ⟨by rw [HV.out]; rfl, hB⟩

set_option maxRecDepth 100000 in
set_option maxHeartbeats 4000000 in
theorem refFits_gen (w : World) (A : Option Addr) (m c : Nat) (tg ty ln sz E G : Int) (HC : ∀ W, Below w.heap.size w W → Calls Tryd.prog 32 #[.slice A m c, .int .i64 ty, .int .i64 ln] W (GivesHead E ty ln G W)) :
    Calls Tryd.prog 29 #[.slice A m c, .agg #[.int .u8 tg, .int .i64 ty, .int .i64 ln, .int .i64 sz]] w fun e w' => e = .returned (.int .i64 (fitV E G tg ty ln sz)) ∧ Below w.heap.size w w' := by
  have H := Lib.hid HC
  clear HC
  cases ho : okH tg ty ln sz
  · have HO := Lib.hid ho
    have HV := Lib.hid (show fitV E G tg ty ln sz = 2 by simp [fitV, ho])
    clear ho
    go_enter Tryd.func29, Tryd.ntmps29
    go_wp2_with fail
    refine (refMay_any tg ty ln sz _).mono ?_
    rintro e w1 ⟨rfl, hb⟩
    rw [HO.out]
    have hB := bnext (balloc (Below.refl _ w) _) hb
    clear hb
    go_wp2_with fail
    go_ret
    exact ⟨by rw [HV.out]; rfl, hB⟩
  · have HO := Lib.hid ho
    by_cases ht : tg = 1
    · subst ht
      by_cases hE : E = 0
      · subst hE
        by_cases hG : G = sz
        · subst hG
          have HV := Lib.hid (show fitV 0 G 1 ty ln G = 0 by simp [fitV, ho])
          clear ho
          go_enter Tryd.func29, Tryd.ntmps29
          go_wp2_with fail
          refine (refMay_any 1 ty ln G _).mono ?_
          rintro e w1 ⟨rfl, hb⟩
          rw [HO.out]
          have hB := Lib.hid (bnext (balloc (Below.refl _ w) _) hb)
          have b1 := (Blk.new w 23 #[.int .u8 1, .int .i64 ty, .int .i64 ln, .int .i64 G]).nx hb
          obtain ⟨c0, c1, c2, c3⟩ := b1.c4
          have BB := Lib.hid b1
          clear hb b1
          go_wp2_with fail
          refine (H.out _ hB.out).mono ?_
          rintro e w2 ⟨rfl, hb⟩
          have hB2 := bnext hB.out hb
          obtain ⟨d0, d1, d2, d3⟩ := (BB.out.nx hb).c4
          have hlt := (BB.out.nx hb).lt
          clear hb c0 c1 c2 c3
          have r1 : (ty == ty) = true := by simp
          have r2 : (ln == ln) = true := by simp
          have r3 : (G == G) = true := by simp
          have hh1 : hT 0 = 1 := by simp [hT]
          have hh2 : ∀ x, hY 0 x = x := fun x => by simp [hY]
          rw [hh1, hh2, hh2, hh2]
          clear hh1 hh2
          go_wp2_with fail
          go_ret
          exact ⟨by rw [HV.out]; rfl, balloc hB2 _⟩
        · have HV := Lib.hid (show fitV 0 G 1 ty ln sz = 8 by simp [fitV, ho, hG])
          have r3 : (G == sz) = false := by simpa using hG
          clear ho hG
          go_enter Tryd.func29, Tryd.ntmps29
          go_wp2_with fail
          refine (refMay_any 1 ty ln sz _).mono ?_
          rintro e w1 ⟨rfl, hb⟩
          rw [HO.out]
          have hB := Lib.hid (bnext (balloc (Below.refl _ w) _) hb)
          have b1 := (Blk.new w 23 #[.int .u8 1, .int .i64 ty, .int .i64 ln, .int .i64 sz]).nx hb
          obtain ⟨c0, c1, c2, c3⟩ := b1.c4
          have BB := Lib.hid b1
          clear hb b1
          go_wp2_with fail
          refine (H.out _ hB.out).mono ?_
          rintro e w2 ⟨rfl, hb⟩
          have hB2 := bnext hB.out hb
          obtain ⟨d0, d1, d2, d3⟩ := (BB.out.nx hb).c4
          have hlt := (BB.out.nx hb).lt
          clear hb c0 c1 c2 c3
          have r1 : (ty == ty) = true := by simp
          have r2 : (ln == ln) = true := by simp
          have hh1 : hT 0 = 1 := by simp [hT]
          have hh2 : ∀ x, hY 0 x = x := fun x => by simp [hY]
          rw [hh1, hh2, hh2, hh2]
          clear hh1 hh2
          go_wp2_with fail
          go_ret
          exact ⟨by rw [HV.out]; rfl, balloc hB2 _⟩
      · have HV := Lib.hid (show fitV E G 1 ty ln sz = 8 by simp [fitV, ho, hE])
        have hne : (E != 0) = true := by simpa using hE
        have HE := Lib.hid hE
        clear ho hE
        go_enter Tryd.func29, Tryd.ntmps29
        go_wp2_with fail
        refine (refMay_any 1 ty ln sz _).mono ?_
        rintro e w1 ⟨rfl, hb⟩
        rw [HO.out]
        have hB := Lib.hid (bnext (balloc (Below.refl _ w) _) hb)
        have b1 := (Blk.new w 23 #[.int .u8 1, .int .i64 ty, .int .i64 ln, .int .i64 sz]).nx hb
        obtain ⟨c0, c1, c2, c3⟩ := b1.c4
        have BB := Lib.hid b1
        clear hb b1
        go_wp2_with fail
        refine (H.out _ hB.out).mono ?_
        rintro e w2 ⟨rfl, hb⟩
        have hB2 := bnext hB.out hb
        obtain ⟨d0, d1, d2, d3⟩ := (BB.out.nx hb).c4
        have hlt := (BB.out.nx hb).lt
        clear hb c0 c1 c2 c3
        rw [hT_no HE.out, hY_no HE.out, hY_no HE.out, hY_no HE.out]
        go_wp2_with fail
        go_ret
        exact ⟨by rw [HV.out]; rfl, balloc hB2 _⟩
    · have HV := Lib.hid (show fitV E G tg ty ln sz = 0 by simp [fitV, ho, ht])
      have hne : (tg != 1) = true := by simpa using ht
      clear ho ht
      have b0 := Blk.new w 23 #[.int .u8 tg, .int .i64 ty, .int .i64 ln, .int .i64 sz]
      go_enter Tryd.func29, Tryd.ntmps29
      go_wp2_with fail
      refine (refMay_any tg ty ln sz _).mono ?_
      rintro e w1 ⟨rfl, hb⟩
      rw [HO.out]
      have hB := bnext (balloc (Below.refl _ w) _) hb
      obtain ⟨c0, c1, c2, c3⟩ := (b0.nx hb).c4
      clear hb b0
      go_wp2_with fail
      go_ret
      exact ⟨by rw [HV.out]; rfl, hB⟩
end Go.Proofs.YtmjkohjijoddaaaDoor
