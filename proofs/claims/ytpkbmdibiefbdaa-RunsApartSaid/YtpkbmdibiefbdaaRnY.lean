/- The law RunsApart: the walk. -/
import Derived.Test.YtpkbmdibiefbdaaRnV
import Derived.Test.YtpkbmdibiefbdaaFrameR
import Derived.StillTailTactics
namespace Go.Proofs.Ytpkbmdibiefbdaa
open Go.RowKit
set_option linter.unusedVariables false
set_option linter.unusedSimpArgs false

theorem meas_q {n q : Nat} {v : Int} (h : q < n) (hv : v = ((q + 1 : Nat) : Int)) : n - (intOf (Value.int .i64 v)).toNat < n - (intOf (Value.int .i64 (q : Int))).toNat := by
  subst hv
  simp [intOf]
  omega
theorem in_may {a l i X : Int} (i0 : -9223372036854775808 ≤ i) (i1 : i ≤ 9223372036854775807) (hX : IntKind.i64.wrap (i - a) = X) (hm : mayB a l = true) : (a ≤ i → inR (a, l) i = decide (X < l)) ∧ (¬ a ≤ i → inR (a, l) i = false) := by
  simp only [mayB, decide_eq_true_eq] at hm
  constructor
  · intro h
    have e : IntKind.i64.wrap (i - a) = i - a := by simp [IntKind.wrap, IntKind.signed, IntKind.bits]; omega
    rw [e] at hX
    subst hX
    unfold inR
    rw [decide_eq_decide]
    dsimp only
    omega
  · intro h
    unfold inR
    rw [decide_eq_false_iff_not]
    dsimp only
    omega
theorem may_of_add {rs : List Rn} {a l : Int} (h : addE rs (a, l) = 0) : mayB a l = true := by
  unfold addE at h
  cases hm : mayB a l
  · simp [hm] at h
  · rfl
theorem may_of_cut {rs : List Rn} {a l : Int} (h : cutE rs (a, l) = 0) : mayB a l = true := by
  unfold cutE at h
  cases hm : mayB a l
  · simp [hm] at h
  · rfl
theorem set_sum {w : World} {B sb : Nat} {rs : List Rn} (h : IsSet w B sb rs) : 0 ≤ sumR rs ∧ sumR rs ≤ 65536 := by
  obtain ⟨_, _, _, _, hg⟩ := h
  have := sum_bd hg rs.length
  rwa [List.take_length] at this
theorem set_good {w : World} {B sb : Nat} {rs : List Rn} (h : IsSet w B sb rs) : GoodR rs := by
  obtain ⟨_, _, _, _, hg⟩ := h
  exact hg
theorem good_len {rs : List Rn} (h : GoodR rs) : (rs.length : Int) ≤ 65536 := by
  have h1 := sum_bd h rs.length
  rw [List.take_length] at h1
  have h2 : ∀ l : List Rn, (∀ r ∈ l, 1 ≤ r.2) → (l.length : Int) ≤ sumR l := by
    intro l
    induction l with
    | nil => intro _; simp [sumR]
    | cons x t ih =>
      intro hl
      have := ih (fun r hr => hl r (List.mem_cons_of_mem _ hr))
      have := hl x (by simp)
      rw [sumR_cons, List.length_cons]
      omega
  have := h2 rs h.1.1
  omega
theorem of_is {rs : List Rn} (h : GoodR rs) {r x : Rn} {b : Bool} {i : Int} (hr : r ∈ rs) (hi : inR r i = true) (hv : (b = true ∧ x ∈ rs ∧ inR x i = true) ∨ (b = false ∧ x = (0, 0) ∧ ∀ r ∈ rs, inR r i = false)) : x = r ∧ b = true := by
  rcases hv with ⟨h1, h2, h3⟩ | ⟨_, _, h3⟩
  · refine ⟨?_, h1⟩
    have g1 := inR_iff.1 hi
    have g2 := inR_iff.1 h3
    rcases apt_two h.1 h2 hr with e | e | e
    · exact e
    · omega
    · omega
  · rw [h3 r hr] at hi
    cases hi
theorem end_no {rs : List Rn} (h : GoodR rs) {r : Rn} (hr : r ∈ rs) : memR rs (r.1 + r.2) = false := by
  cases hm : memR rs (r.1 + r.2)
  · rfl
  · obtain ⟨x, hx, hi⟩ := List.any_eq_true.1 hm
    have g := inR_iff.1 hi
    have := h.1.1 r hr
    rcases apt_two h.1 hx hr with e | e | e
    · subst e; omega
    · omega
    · omega

set_option maxRecDepth 100000 in
set_option maxHeartbeats 16000000 in
theorem runsApart_walk (W : World) (A : Option Addr) (len cap : Nat) (ts : List Stq) (h : StepsQ W A len cap ts) (i : Int) (i0 : -9223372036854775808 ≤ i) (i1 : i ≤ 9223372036854775807) :
    Calls Try.prog 4 #[.slice A len cap, .int .i64 i] W fun e w' => e = .returned (.bool true) ∧ Below W.heap.size W w' := by
  have HH := Lib.hid h
  have hlen : len ≤ 9223372036854775807 := Nat.le_trans h.le h.mx
  have I0 := Lib.hid i0
  have I1 := Lib.hid i1
  clear h
  by_cases hl0 : 60 < len
  · go_enter Try.func4, Try.ntmps4
    go_wp2_with fail
    refine (alive04 _).mono ?_
    rintro e w1 ⟨rfl, hb⟩
    go_wp2_with fail
    go_ret
    exact ⟨rfl, hb⟩
  go_enter Try.func4, Try.ntmps4
  go_wp2_with fail
  refine (rnew_set W).mono ?_
  rintro e w1 ⟨rfl, hS, hb⟩
  obtain ⟨sb, hsb⟩ : ∃ sb, W.heap.size + 1 = sb := ⟨_, rfl⟩
  rw [hsb] at hS
  rw [hsb]
  have S1 := Lib.hid hS
  have B1 := Lib.hid (KpR.of_below hb (Nat.le_refl _))
  clear hS hb hsb
  go_wp2_with fail
  go_loopw [6, 7, 8] (fun th tot k wr => ∃ (q : Nat) (rs : List Rn) (m : Bool) (Sv : Int), q ≤ len ∧ k = .int .i64 (q : Int) ∧ th = .bool m ∧ tot = .int .i64 Sv ∧ memR rs i = m ∧ sumR rs = Sv ∧ IsSet wr W.heap.size sb rs ∧ KpR W.heap.size W wr) (fun _ _ k _ => len - (intOf k).toNat)
  case atStart => exact ⟨0, [], false, 0, Nat.zero_le _, rfl, rfl, rfl, rfl, rfl, S1.out, B1.out⟩
  case round =>
    obtain ⟨q, rs, m, Sv, hq, rfl, rfl, rfl, hm, hs, hS, hK⟩ := hrel
    have HM := Lib.hid hm
    have HS := Lib.hid hs
    have ST := Lib.hid hS
    have KK := Lib.hid hK
    clear hm hs hS hK S1 B1
    by_cases hlt : q < len
    rotate_left
    · skip
      have hgd := set_good ST.out
      have hln := good_len hgd
      go_wp2_with fail
      refine (list_any wr W.heap.size sb rs ST.out (by omega)).mono ?_
      rintro e w5 ⟨v, rfl, ho, hb⟩
      obtain ⟨A5, c5, rfl, _⟩ := own_form ho
      have S5 := Lib.hid (ST.out.nx hb)
      have K5 := Lib.hid (KK.out.t (KpR.of_below hb KK.out.2.1))
      have R5 := Lib.hid (Reads.of_own ho)
      have HG := Lib.hid hgd
      have HLN := Lib.hid hln
      clear ho hb hgd hln ST KK
      go_wp2_with fail
      go_loopw [12, 13, 14] (fun en su k wx => ∃ (q : Nat) (E : Int), q ≤ rs.length ∧ k = .int .i64 (q : Int) ∧ en = .int .i64 E ∧ su = .int .i64 (sumR (rs.take q)) ∧ (-1 ≤ E ∧ E ≤ 65536 ∧ ∀ j, q ≤ j → j < rs.length → E < (rs.getD j (0, 0)).1) ∧ Below w5.heap.size w5 wx) (fun _ _ k _ => rs.length - (intOf k).toNat)
      case atStart => exact ⟨0, -1, Nat.zero_le _, rfl, rfl, by simp [sumR], ⟨by omega, by omega, fun j _ hj => by have := good_bd HG.out (rs_mem hj); omega⟩, Below.refl _ _⟩
      case round =>
        obtain ⟨q2, E, hq2, rfl, rfl, rfl, hEE, hB⟩ := hrel
        by_cases hlt2 : q2 < rs.length
        · obtain ⟨b6, o6, rfl, hb6, u0, u1⟩ := R5.out.rn hlt2
          have v0 := (hB.cell (p := ⟨b6, o6 + q2 * 2, none⟩) hb6).trans u0
          have v1 := (hB.cell (p := ⟨b6, o6 + q2 * 2 + 1, none⟩) hb6).trans u1
          have U0 := Lib.hid u0
          have U1 := Lib.hid u1
          have BX := Lib.hid hB
          have hmem := rs_mem hlt2
          have hbd := good_bd HG.out hmem
          have hE1 := hEE.2.2 q2 (Nat.le_refl _) hlt2
          have hsb := sum_bd HG.out (q2 + 1)
          have hsm := take_snoc rs q2 hlt2
          have hNX := Lib.hid (show ∀ j, q2 + 1 ≤ j → j < rs.length → (rs.getD q2 (0, 0)).1 + (rs.getD q2 (0, 0)).2 < (rs.getD j (0, 0)).1 from fun j h1 h2 => by
            have := List.pairwise_iff_getElem.1 HG.out.1.2 q2 j hlt2 h2 (by omega)
            simpa [List.getD, hlt2, h2] using this)
          rw [hsm, sumR_append] at hsb
          have HSM := Lib.hid (show sumR (rs.take (q2 + 1)) = sumR (rs.take q2) + (rs.getD q2 (0, 0)).2 by rw [hsm, sumR_append]; simp [sumR])
          have hs1 : sumR [rs.getD q2 (0, 0)] = (rs.getD q2 (0, 0)).2 := by simp [sumR]
          rw [hs1] at hsb
          have HEN := Lib.hid (end_no HG.out hmem)
          have HMEM := Lib.hid hmem
          have hE0 := hEE.1
          clear hs1 hsm u0 u1 hB hmem hEE
          generalize rs.getD q2 (0, 0) = r at *
          obtain ⟨rA, rL⟩ := r
          generalize sumR (rs.take q2) = Sq at *
          dsimp only at hbd hE1 hsb HSM HEN hNX v0 v1 U0 U1
          have dd1 : decide (rA ≤ E) = false := by simp; omega
          have dd2 : decide (rL < 1) = false := by simp; omega
          have e1 : wrap64 (rA + rL) = rA + rL := by simp [wrap64]; omega
          have e2 : IntKind.i64.wrap (rA + rL) = rA + rL := by simp [IntKind.wrap, IntKind.signed, IntKind.bits]; omega
          have HW1 := Lib.hid (show sumR (rs.take (q2 + 1)) = wrap64 (Sq + rL) by rw [HSM.out]; simp [wrap64]; omega)
          have e3 : wrap64 (rA + rL - 1) = rA + rL - 1 := by simp [wrap64]; omega
          have e4 : IntKind.i64.wrap (rA + rL - 1) = rA + rL - 1 := by simp [IntKind.wrap, IntKind.signed, IntKind.bits]; omega
          have HBD := Lib.hid hbd
          have HLT := Lib.hid hlt2
          have HE1 := Lib.hid hE1
          clear hbd hE1 hsb hE0
          go_wp2_with fail
          go_quiet (fail)
          have BY := Lib.hid (bdrewN BX.out nq)
          obtain ⟨v0, v1⟩ : (wr.drewN nq).cell? ⟨b6, o6 + q2 * 2, none⟩ = some (.int .i64 rA) ∧ (wr.drewN nq).cell? ⟨b6, o6 + q2 * 2 + 1, none⟩ = some (.int .i64 rL) := ⟨v0, v1⟩
          go_wp2_with fail
          refine (of_any _ W.heap.size sb rs (S5.out.nx BY.out) rA (by have := HBD.out; omega) (by have := HBD.out; omega)).mono ?_
          rintro e w6 ⟨x, b, rfl, hv, hb⟩
          obtain ⟨rfl, rfl⟩ := of_is HG.out HMEM.out (inR_iff.2 (by have := HBD.out; dsimp only; omega)) hv
          have B6 := Lib.hid (balloc (bnext BY.out hb) (.cells #[.int .i64 rA, .int .i64 rL] 24))
          have X6 := Lib.hid (Blk.new w6 24 #[.int .i64 rA, .int .i64 rL])
          clear hb hv v0 v1
          go_wp2_with fail
          refine (of_any _ W.heap.size sb rs (S5.out.nx B6.out) (rA + rL - 1) (by have := HBD.out; omega) (by have := HBD.out; omega)).mono ?_
          rintro e w7 ⟨x, b, rfl, hv, hb⟩
          obtain ⟨rfl, rfl⟩ := of_is HG.out HMEM.out (inR_iff.2 (by have := HBD.out; dsimp only; omega)) hv
          have B7 := Lib.hid (balloc (bnext B6.out hb) (.cells #[.int .i64 rA, .int .i64 rL] 24))
          obtain ⟨x0, x1⟩ := ((X6.out.nx hb).alloc (.cells #[.int .i64 rA, .int .i64 rL] 24)).c2
          obtain ⟨y0, y1⟩ := (Blk.new w7 24 #[.int .i64 rA, .int .i64 rL]).c2
          obtain ⟨z0, z1⟩ : (w7.alloc (.cells #[.int .i64 rA, .int .i64 rL] 24)).cell? ⟨b6, o6 + q2 * 2, none⟩ = some (.int .i64 rA) ∧ (w7.alloc (.cells #[.int .i64 rA, .int .i64 rL] 24)).cell? ⟨b6, o6 + q2 * 2 + 1, none⟩ = some (.int .i64 rL) := ⟨(B7.out.cell (p := ⟨b6, o6 + q2 * 2, none⟩) hb6).trans U0.out, (B7.out.cell (p := ⟨b6, o6 + q2 * 2 + 1, none⟩) hb6).trans U1.out⟩
          have HAS := Lib.hid (fun k => has_any ((w7.alloc (.cells #[.int .i64 rA, .int .i64 rL] 24)).drewN k) W.heap.size sb rs (S5.out.nx (bdrewN B7.out k)) (rA + rL) (by have := HBD.out; omega) (by have := HBD.out; omega))
          rw [HEN.out] at HAS
          have rr7 : (rA == rA) = true := by simp
          have rr8 : (rL == rL) = true := by simp
          clear hb hv X6
          go_wp2_with fail
          obtain ⟨Wz, hWz⟩ : ∃ Wz, w7.alloc (.cells #[.int .i64 rA, .int .i64 rL] 24) = Wz := ⟨_, rfl⟩
          rw [hWz] at x0 x1 y0 y1 z0 z1 HAS B7
          rw [hWz]
          clear hWz
          go_still_tail 25, (by kernel_rfl)
          change wpList _ _ _ _ _ (World.drew _)
          go_wp2_with (go_at_call 15; refine (HAS.out (0 + 1)).mono ?_; rintro e w8 ⟨rfl, hb⟩)
          all_goals
            have hq3 : q2 ≤ 65536 := by have := HLN.out; have := HLT.out; omega
            have hqw : wrap64 ((q2 : Int) + 1) = (q2 : Int) + 1 := by simp [wrap64]; omega
            have hqi : wrap64 ((q2 : Int) + 1) = ((q2 + 1 : Nat) : Int) := by rw [hqw]; rfl
            have B8 := Lib.hid (B7.out.trans (((bdrewN (Below.refl Wz.heap.size Wz) 1).trans hb).mono B7.out.size))
            clear hb x0 x1 y0 y1 z0 z1
            go_wp2_with fail
            go_roundw
            case rel => exact ⟨q2 + 1, rA + rL, HLT.out, congrArg (Value.int IntKind.i64) hqi, rfl, congrArg (Value.int IntKind.i64) HW1.out.symm, ⟨by have := HBD.out; omega, by have := HBD.out; omega, hNX.out⟩, B8.out⟩
            case measure => exact meas_q HLT.out hqi
        · obtain rfl : q2 = rs.length := by omega
          have B6 := Lib.hid (K5.out.1.trans (hB.mono K5.out.2.1))
          have hsum : sumR (rs.take rs.length) = Sv := by rw [List.take_length]; exact HS.out
          rw [hsum]
          have rr9 : (Sv == Sv) = true := by simp
          clear hsum hB hEE
          go_wp2_with fail
          refine (alive04 _).mono ?_
          rintro e w9 ⟨rfl, hb⟩
          go_wp2_with fail
          go_ret
          exact ⟨rfl, bnext B6.out hb⟩
    obtain ⟨b4, o4, rfl, hb4, p0, p1, p2⟩ := HH.out.r.sq hlt
    have hl4 : q < ts.length := by rw [HH.out.len_]; exact hlt
    have P0 := Lib.hid p0
    have P1 := Lib.hid p1
    have P2 := Lib.hid p2
    clear p0 p1 p2 hl4
    generalize ts.getD q (0, 0, 0) = t at *
    obtain ⟨d, a, l⟩ := t
    dsimp only at P0 P1 P2
    obtain ⟨r0, r1, r2⟩ : wr.cell? ⟨b4, o4 + q * 3, none⟩ = some (.int .i64 d) ∧ wr.cell? ⟨b4, o4 + q * 3 + 1, none⟩ = some (.int .i64 a) ∧ wr.cell? ⟨b4, o4 + q * 3 + 2, none⟩ = some (.int .i64 l) := ⟨(KK.out.1.cell (p := ⟨b4, o4 + q * 3, none⟩) hb4).trans P0.out, (KK.out.1.cell (p := ⟨b4, o4 + q * 3 + 1, none⟩) hb4).trans P1.out, (KK.out.1.cell (p := ⟨b4, o4 + q * 3 + 2, none⟩) hb4).trans P2.out⟩
    have hbl := balloc (Below.refl _ wr) (.cells #[.int .i64 a, .int .i64 l] 24)
    have Sb := Lib.hid (ST.out.nx hbl)
    have Kb := Lib.hid (KK.out.t (KpR.of_below hbl KK.out.2.1))
    have Xb := Lib.hid (Blk.new wr 24 #[.int .i64 a, .int .i64 l])
    obtain ⟨c0, c1⟩ := Xb.out.c2
    obtain ⟨s0, s1, s2⟩ : (wr.alloc (.cells #[.int .i64 a, .int .i64 l] 24)).cell? ⟨b4, o4 + q * 3, none⟩ = some (.int .i64 d) ∧ (wr.alloc (.cells #[.int .i64 a, .int .i64 l] 24)).cell? ⟨b4, o4 + q * 3 + 1, none⟩ = some (.int .i64 a) ∧ (wr.alloc (.cells #[.int .i64 a, .int .i64 l] 24)).cell? ⟨b4, o4 + q * 3 + 2, none⟩ = some (.int .i64 l) := ⟨(Kb.out.1.cell (p := ⟨b4, o4 + q * 3, none⟩) hb4).trans P0.out, (Kb.out.1.cell (p := ⟨b4, o4 + q * 3 + 1, none⟩) hb4).trans P1.out, (Kb.out.1.cell (p := ⟨b4, o4 + q * 3 + 2, none⟩) hb4).trans P2.out⟩
    obtain ⟨X, hX⟩ : ∃ X, IntKind.i64.wrap (i - a) = X := ⟨_, rfl⟩
    have HIN := Lib.hid (fun h => in_may (l := l) I0.out I1.out hX h)
    have ex1 : wrap64 (i - a) = X := by rw [← hX]; simp [wrap64, IntKind.wrap, IntKind.signed, IntKind.bits]; split <;> omega
    clear hbl
    by_cases q1 : a ≤ i
    · obtain ⟨bv, hbv'⟩ : ∃ bv, decide (X < l) = bv := ⟨_, rfl⟩
      have hbv := Lib.hid hbv'
      by_cases hd0 : d = 0
      · subst hd0
        go_wp2_with fail
        refine (add_any _ W.heap.size sb rs Sb.out Kb.out.2.1 a l).mono ?_
        rintro e wa ⟨h1, h2, h3, hk⟩
        have Ka := Lib.hid (Kb.out.t hk)
        have hra := Xb.out
        obtain ⟨c0, c1⟩ := (hk.2.2 _ _ _ (by decide) hra).c2
        obtain ⟨r0, r1, r2⟩ : wa.cell? ⟨b4, o4 + q * 3, none⟩ = some (.int .i64 0) ∧ wa.cell? ⟨b4, o4 + q * 3 + 1, none⟩ = some (.int .i64 a) ∧ wa.cell? ⟨b4, o4 + q * 3 + 2, none⟩ = some (.int .i64 l) := ⟨(Ka.out.1.cell (p := ⟨b4, o4 + q * 3, none⟩) hb4).trans P0.out, (Ka.out.1.cell (p := ⟨b4, o4 + q * 3 + 1, none⟩) hb4).trans P1.out, (Ka.out.1.cell (p := ⟨b4, o4 + q * 3 + 2, none⟩) hb4).trans P2.out⟩
        by_cases hE : addE rs (a, l) = 0
        · obtain ⟨rs', g1, g2, g3⟩ := h3 hE
          have S2 := Lib.hid g1
          have hmem := HIN.out (may_of_add hE)
          have hin : inR (a, l) i = bv := (hmem.1 q1).trans hbv.out
          have HM2 := Lib.hid (show memR rs' i = (m || bv) by rw [g2 i, HM.out, hin])
          have HS2 := Lib.hid (show sumR rs' = wrap64 (Sv + l) by
            have hbd := set_sum g1
            rw [g3, HS.out] at hbd
            rw [g3, HS.out]
            dsimp only at hbd ⊢
            simp [wrap64]; omega)
          have rr3 : (wrap64 (Sv + l) != wrap64 (Sv + l)) = false := by simp
          rw [hE] at h1
          subst h1
          clear h2 h3 hk hra hE g1 g2 g3 hmem hin
          cases m
          · have HM3 := Lib.hid (show memR rs' i = bv by have := HM2.out; simpa using this)
            go_wp2_with fail
            refine (has_any _ W.heap.size sb rs' S2.out i I0.out I1.out).mono ?_
            rintro e wh ⟨rfl, hb⟩
            rw [HM3.out]
            have Sh := Lib.hid (S2.out.nx hb)
            have Kh := Lib.hid (Ka.out.t (KpR.of_below hb Ka.out.2.1))
            clear hb
            have rr1 : (bv != bv) = false := by simp
            go_wp2_with fail
            refine (total_set _ W.heap.size sb rs' Sh.out).mono ?_
            rintro e wt ⟨rfl, hb⟩
            rw [HS2.out]
            have St := Lib.hid (Sh.out.nx hb)
            have Kt := Lib.hid (Kh.out.t (KpR.of_below hb Kh.out.2.1))
            clear hb
            go_wp2_with fail
            go_roundw
            case rel => exact ⟨q + 1, rs', _, _, by omega, by go_num, rfl, rfl, HM3.out, HS2.out, St.out, Kt.out⟩
            case measure => simp [intOf]; omega
          · have HM3 := Lib.hid (show memR rs' i = true by have := HM2.out; simpa using this)
            go_wp2_with fail
            refine (has_any _ W.heap.size sb rs' S2.out i I0.out I1.out).mono ?_
            rintro e wh ⟨rfl, hb⟩
            rw [HM3.out]
            have Sh := Lib.hid (S2.out.nx hb)
            have Kh := Lib.hid (Ka.out.t (KpR.of_below hb Ka.out.2.1))
            clear hb
            have rr1 : (true != true) = false := by simp
            go_wp2_with fail
            refine (total_set _ W.heap.size sb rs' Sh.out).mono ?_
            rintro e wt ⟨rfl, hb⟩
            rw [HS2.out]
            have St := Lib.hid (Sh.out.nx hb)
            have Kt := Lib.hid (Kh.out.t (KpR.of_below hb Kh.out.2.1))
            clear hb
            go_wp2_with fail
            go_roundw
            case rel => exact ⟨q + 1, rs', _, _, by omega, by go_num, rfl, rfl, HM3.out, HS2.out, St.out, Kt.out⟩
            case measure => simp [intOf]; omega
        · have g1 := h2 hE
          have S2 := Lib.hid g1
          have hne : (addE rs (a, l) == 0) = false := by simpa using hE
          subst h1
          clear h2 h3 hk hra hE g1
          generalize addE rs (a, l) = er at *
          go_wp2_with fail
          refine (has_any _ W.heap.size sb rs S2.out i I0.out I1.out).mono ?_
          rintro e wh ⟨rfl, hb⟩
          rw [HM.out]
          have Sh := Lib.hid (S2.out.nx hb)
          have Kh := Lib.hid (Ka.out.t (KpR.of_below hb Ka.out.2.1))
          clear hb
          have rr1 : (m != m) = false := by simp
          go_wp2_with fail
          refine (total_set _ W.heap.size sb rs Sh.out).mono ?_
          rintro e wt ⟨rfl, hb⟩
          rw [HS.out]
          have St := Lib.hid (Sh.out.nx hb)
          have Kt := Lib.hid (Kh.out.t (KpR.of_below hb Kh.out.2.1))
          clear hb
          go_wp2_with fail
          go_roundw
          case rel => exact ⟨q + 1, rs, _, _, by omega, by go_num, rfl, rfl, HM.out, HS.out, St.out, Kt.out⟩
          case measure => simp [intOf]; omega
      by_cases hd1 : d = 1
      · subst hd1
        go_wp2_with fail
        refine (cut_any _ W.heap.size sb rs Sb.out Kb.out.2.1 a l).mono ?_
        rintro e wa ⟨h1, h2, h3, hk⟩
        have Ka := Lib.hid (Kb.out.t hk)
        have hra := Xb.out
        obtain ⟨c0, c1⟩ := (hk.2.2 _ _ _ (by decide) hra).c2
        obtain ⟨r0, r1, r2⟩ : wa.cell? ⟨b4, o4 + q * 3, none⟩ = some (.int .i64 1) ∧ wa.cell? ⟨b4, o4 + q * 3 + 1, none⟩ = some (.int .i64 a) ∧ wa.cell? ⟨b4, o4 + q * 3 + 2, none⟩ = some (.int .i64 l) := ⟨(Ka.out.1.cell (p := ⟨b4, o4 + q * 3, none⟩) hb4).trans P0.out, (Ka.out.1.cell (p := ⟨b4, o4 + q * 3 + 1, none⟩) hb4).trans P1.out, (Ka.out.1.cell (p := ⟨b4, o4 + q * 3 + 2, none⟩) hb4).trans P2.out⟩
        by_cases hE : cutE rs (a, l) = 0
        · obtain ⟨rs', g1, g2, g3⟩ := h3 hE
          have S2 := Lib.hid g1
          have hmem := HIN.out (may_of_cut hE)
          have hin : inR (a, l) i = bv := (hmem.1 q1).trans hbv.out
          have HM2 := Lib.hid (show memR rs' i = (m && !bv) by rw [g2 i, HM.out, hin])
          have HS2 := Lib.hid (show sumR rs' = wrap64 (Sv - l) by
            have hbd := set_sum g1
            rw [g3, HS.out] at hbd
            rw [g3, HS.out]
            dsimp only at hbd ⊢
            simp [wrap64]; omega)
          have rr3 : (wrap64 (Sv - l) != wrap64 (Sv - l)) = false := by simp
          rw [hE] at h1
          subst h1
          clear h2 h3 hk hra hE g1 g2 g3 hmem hin
          cases m
          · have HM3 := Lib.hid (show memR rs' i = false by have := HM2.out; simpa using this)
            go_wp2_with fail
            refine (has_any _ W.heap.size sb rs' S2.out i I0.out I1.out).mono ?_
            rintro e wh ⟨rfl, hb⟩
            rw [HM3.out]
            have Sh := Lib.hid (S2.out.nx hb)
            have Kh := Lib.hid (Ka.out.t (KpR.of_below hb Ka.out.2.1))
            clear hb
            have rr1 : (false != false) = false := by simp
            go_wp2_with fail
            refine (total_set _ W.heap.size sb rs' Sh.out).mono ?_
            rintro e wt ⟨rfl, hb⟩
            rw [HS2.out]
            have St := Lib.hid (Sh.out.nx hb)
            have Kt := Lib.hid (Kh.out.t (KpR.of_below hb Kh.out.2.1))
            clear hb
            go_wp2_with fail
            go_roundw
            case rel => exact ⟨q + 1, rs', _, _, by omega, by go_num, rfl, rfl, HM3.out, HS2.out, St.out, Kt.out⟩
            case measure => simp [intOf]; omega
          · have HM3 := Lib.hid (show memR rs' i = (!bv) by have := HM2.out; simpa using this)
            go_wp2_with fail
            refine (has_any _ W.heap.size sb rs' S2.out i I0.out I1.out).mono ?_
            rintro e wh ⟨rfl, hb⟩
            rw [HM3.out]
            have Sh := Lib.hid (S2.out.nx hb)
            have Kh := Lib.hid (Ka.out.t (KpR.of_below hb Ka.out.2.1))
            clear hb
            have rr1 : ((!bv) != (!bv)) = false := by simp
            go_wp2_with fail
            refine (total_set _ W.heap.size sb rs' Sh.out).mono ?_
            rintro e wt ⟨rfl, hb⟩
            rw [HS2.out]
            have St := Lib.hid (Sh.out.nx hb)
            have Kt := Lib.hid (Kh.out.t (KpR.of_below hb Kh.out.2.1))
            clear hb
            go_wp2_with fail
            go_roundw
            case rel => exact ⟨q + 1, rs', _, _, by omega, by go_num, rfl, rfl, HM3.out, HS2.out, St.out, Kt.out⟩
            case measure => simp [intOf]; omega
        · have g1 := h2 hE
          have S2 := Lib.hid g1
          have hne : (cutE rs (a, l) == 0) = false := by simpa using hE
          subst h1
          clear h2 h3 hk hra hE g1
          generalize cutE rs (a, l) = er at *
          go_wp2_with fail
          refine (has_any _ W.heap.size sb rs S2.out i I0.out I1.out).mono ?_
          rintro e wh ⟨rfl, hb⟩
          rw [HM.out]
          have Sh := Lib.hid (S2.out.nx hb)
          have Kh := Lib.hid (Ka.out.t (KpR.of_below hb Ka.out.2.1))
          clear hb
          have rr1 : (m != m) = false := by simp
          go_wp2_with fail
          refine (total_set _ W.heap.size sb rs Sh.out).mono ?_
          rintro e wt ⟨rfl, hb⟩
          rw [HS.out]
          have St := Lib.hid (Sh.out.nx hb)
          have Kt := Lib.hid (Kh.out.t (KpR.of_below hb Kh.out.2.1))
          clear hb
          go_wp2_with fail
          go_roundw
          case rel => exact ⟨q + 1, rs, _, _, by omega, by go_num, rfl, rfl, HM.out, HS.out, St.out, Kt.out⟩
          case measure => simp [intOf]; omega
      have qd0 : (d == 0) = false := by simpa using hd0
      have qd1 : (d == 1) = false := by simpa using hd1
      go_wp2_with fail
      refine (has_any _ W.heap.size sb rs Sb.out i I0.out I1.out).mono ?_
      rintro e wh ⟨rfl, hb⟩
      rw [HM.out]
      have Sh := Lib.hid (Sb.out.nx hb)
      have Kh := Lib.hid (Kb.out.t (KpR.of_below hb Kb.out.2.1))
      clear hb
      have rr1 : (m != m) = false := by simp
      go_wp2_with fail
      refine (total_set _ W.heap.size sb rs Sh.out).mono ?_
      rintro e wt ⟨rfl, hb⟩
      rw [HS.out]
      have St := Lib.hid (Sh.out.nx hb)
      have Kt := Lib.hid (Kh.out.t (KpR.of_below hb Kh.out.2.1))
      clear hb
      go_wp2_with fail
      go_roundw
      case rel => exact ⟨q + 1, rs, _, _, by omega, by go_num, rfl, rfl, HM.out, HS.out, St.out, Kt.out⟩
      case measure => simp [intOf]; omega
    · have q1' : decide (a ≤ i) = false := by simpa using q1
      by_cases hd0 : d = 0
      · subst hd0
        go_wp2_with fail
        refine (add_any _ W.heap.size sb rs Sb.out Kb.out.2.1 a l).mono ?_
        rintro e wa ⟨h1, h2, h3, hk⟩
        have Ka := Lib.hid (Kb.out.t hk)
        have hra := Xb.out
        obtain ⟨c0, c1⟩ := (hk.2.2 _ _ _ (by decide) hra).c2
        obtain ⟨r0, r1, r2⟩ : wa.cell? ⟨b4, o4 + q * 3, none⟩ = some (.int .i64 0) ∧ wa.cell? ⟨b4, o4 + q * 3 + 1, none⟩ = some (.int .i64 a) ∧ wa.cell? ⟨b4, o4 + q * 3 + 2, none⟩ = some (.int .i64 l) := ⟨(Ka.out.1.cell (p := ⟨b4, o4 + q * 3, none⟩) hb4).trans P0.out, (Ka.out.1.cell (p := ⟨b4, o4 + q * 3 + 1, none⟩) hb4).trans P1.out, (Ka.out.1.cell (p := ⟨b4, o4 + q * 3 + 2, none⟩) hb4).trans P2.out⟩
        by_cases hE : addE rs (a, l) = 0
        · obtain ⟨rs', g1, g2, g3⟩ := h3 hE
          have S2 := Lib.hid g1
          have hmem := HIN.out (may_of_add hE)
          have hin : inR (a, l) i = false := hmem.2 q1
          have HM2 := Lib.hid (show memR rs' i = (m || false) by rw [g2 i, HM.out, hin])
          have HS2 := Lib.hid (show sumR rs' = wrap64 (Sv + l) by
            have hbd := set_sum g1
            rw [g3, HS.out] at hbd
            rw [g3, HS.out]
            dsimp only at hbd ⊢
            simp [wrap64]; omega)
          have rr3 : (wrap64 (Sv + l) != wrap64 (Sv + l)) = false := by simp
          rw [hE] at h1
          subst h1
          clear h2 h3 hk hra hE g1 g2 g3 hmem hin
          cases m
          · have HM3 := Lib.hid (show memR rs' i = false by have := HM2.out; simpa using this)
            go_wp2_with fail
            refine (has_any _ W.heap.size sb rs' S2.out i I0.out I1.out).mono ?_
            rintro e wh ⟨rfl, hb⟩
            rw [HM3.out]
            have Sh := Lib.hid (S2.out.nx hb)
            have Kh := Lib.hid (Ka.out.t (KpR.of_below hb Ka.out.2.1))
            clear hb
            have rr1 : (false != false) = false := by simp
            go_wp2_with fail
            refine (total_set _ W.heap.size sb rs' Sh.out).mono ?_
            rintro e wt ⟨rfl, hb⟩
            rw [HS2.out]
            have St := Lib.hid (Sh.out.nx hb)
            have Kt := Lib.hid (Kh.out.t (KpR.of_below hb Kh.out.2.1))
            clear hb
            go_wp2_with fail
            go_roundw
            case rel => exact ⟨q + 1, rs', _, _, by omega, by go_num, rfl, rfl, HM3.out, HS2.out, St.out, Kt.out⟩
            case measure => simp [intOf]; omega
          · have HM3 := Lib.hid (show memR rs' i = true by have := HM2.out; simpa using this)
            go_wp2_with fail
            refine (has_any _ W.heap.size sb rs' S2.out i I0.out I1.out).mono ?_
            rintro e wh ⟨rfl, hb⟩
            rw [HM3.out]
            have Sh := Lib.hid (S2.out.nx hb)
            have Kh := Lib.hid (Ka.out.t (KpR.of_below hb Ka.out.2.1))
            clear hb
            have rr1 : (true != true) = false := by simp
            go_wp2_with fail
            refine (total_set _ W.heap.size sb rs' Sh.out).mono ?_
            rintro e wt ⟨rfl, hb⟩
            rw [HS2.out]
            have St := Lib.hid (Sh.out.nx hb)
            have Kt := Lib.hid (Kh.out.t (KpR.of_below hb Kh.out.2.1))
            clear hb
            go_wp2_with fail
            go_roundw
            case rel => exact ⟨q + 1, rs', _, _, by omega, by go_num, rfl, rfl, HM3.out, HS2.out, St.out, Kt.out⟩
            case measure => simp [intOf]; omega
        · have g1 := h2 hE
          have S2 := Lib.hid g1
          have hne : (addE rs (a, l) == 0) = false := by simpa using hE
          subst h1
          clear h2 h3 hk hra hE g1
          generalize addE rs (a, l) = er at *
          go_wp2_with fail
          refine (has_any _ W.heap.size sb rs S2.out i I0.out I1.out).mono ?_
          rintro e wh ⟨rfl, hb⟩
          rw [HM.out]
          have Sh := Lib.hid (S2.out.nx hb)
          have Kh := Lib.hid (Ka.out.t (KpR.of_below hb Ka.out.2.1))
          clear hb
          have rr1 : (m != m) = false := by simp
          go_wp2_with fail
          refine (total_set _ W.heap.size sb rs Sh.out).mono ?_
          rintro e wt ⟨rfl, hb⟩
          rw [HS.out]
          have St := Lib.hid (Sh.out.nx hb)
          have Kt := Lib.hid (Kh.out.t (KpR.of_below hb Kh.out.2.1))
          clear hb
          go_wp2_with fail
          go_roundw
          case rel => exact ⟨q + 1, rs, _, _, by omega, by go_num, rfl, rfl, HM.out, HS.out, St.out, Kt.out⟩
          case measure => simp [intOf]; omega
      by_cases hd1 : d = 1
      · subst hd1
        go_wp2_with fail
        refine (cut_any _ W.heap.size sb rs Sb.out Kb.out.2.1 a l).mono ?_
        rintro e wa ⟨h1, h2, h3, hk⟩
        have Ka := Lib.hid (Kb.out.t hk)
        have hra := Xb.out
        obtain ⟨c0, c1⟩ := (hk.2.2 _ _ _ (by decide) hra).c2
        obtain ⟨r0, r1, r2⟩ : wa.cell? ⟨b4, o4 + q * 3, none⟩ = some (.int .i64 1) ∧ wa.cell? ⟨b4, o4 + q * 3 + 1, none⟩ = some (.int .i64 a) ∧ wa.cell? ⟨b4, o4 + q * 3 + 2, none⟩ = some (.int .i64 l) := ⟨(Ka.out.1.cell (p := ⟨b4, o4 + q * 3, none⟩) hb4).trans P0.out, (Ka.out.1.cell (p := ⟨b4, o4 + q * 3 + 1, none⟩) hb4).trans P1.out, (Ka.out.1.cell (p := ⟨b4, o4 + q * 3 + 2, none⟩) hb4).trans P2.out⟩
        by_cases hE : cutE rs (a, l) = 0
        · obtain ⟨rs', g1, g2, g3⟩ := h3 hE
          have S2 := Lib.hid g1
          have hmem := HIN.out (may_of_cut hE)
          have hin : inR (a, l) i = false := hmem.2 q1
          have HM2 := Lib.hid (show memR rs' i = (m && !false) by rw [g2 i, HM.out, hin])
          have HS2 := Lib.hid (show sumR rs' = wrap64 (Sv - l) by
            have hbd := set_sum g1
            rw [g3, HS.out] at hbd
            rw [g3, HS.out]
            dsimp only at hbd ⊢
            simp [wrap64]; omega)
          have rr3 : (wrap64 (Sv - l) != wrap64 (Sv - l)) = false := by simp
          rw [hE] at h1
          subst h1
          clear h2 h3 hk hra hE g1 g2 g3 hmem hin
          cases m
          · have HM3 := Lib.hid (show memR rs' i = false by have := HM2.out; simpa using this)
            go_wp2_with fail
            refine (has_any _ W.heap.size sb rs' S2.out i I0.out I1.out).mono ?_
            rintro e wh ⟨rfl, hb⟩
            rw [HM3.out]
            have Sh := Lib.hid (S2.out.nx hb)
            have Kh := Lib.hid (Ka.out.t (KpR.of_below hb Ka.out.2.1))
            clear hb
            have rr1 : (false != false) = false := by simp
            go_wp2_with fail
            refine (total_set _ W.heap.size sb rs' Sh.out).mono ?_
            rintro e wt ⟨rfl, hb⟩
            rw [HS2.out]
            have St := Lib.hid (Sh.out.nx hb)
            have Kt := Lib.hid (Kh.out.t (KpR.of_below hb Kh.out.2.1))
            clear hb
            go_wp2_with fail
            go_roundw
            case rel => exact ⟨q + 1, rs', _, _, by omega, by go_num, rfl, rfl, HM3.out, HS2.out, St.out, Kt.out⟩
            case measure => simp [intOf]; omega
          · have HM3 := Lib.hid (show memR rs' i = true by have := HM2.out; simpa using this)
            go_wp2_with fail
            refine (has_any _ W.heap.size sb rs' S2.out i I0.out I1.out).mono ?_
            rintro e wh ⟨rfl, hb⟩
            rw [HM3.out]
            have Sh := Lib.hid (S2.out.nx hb)
            have Kh := Lib.hid (Ka.out.t (KpR.of_below hb Ka.out.2.1))
            clear hb
            have rr1 : (true != true) = false := by simp
            go_wp2_with fail
            refine (total_set _ W.heap.size sb rs' Sh.out).mono ?_
            rintro e wt ⟨rfl, hb⟩
            rw [HS2.out]
            have St := Lib.hid (Sh.out.nx hb)
            have Kt := Lib.hid (Kh.out.t (KpR.of_below hb Kh.out.2.1))
            clear hb
            go_wp2_with fail
            go_roundw
            case rel => exact ⟨q + 1, rs', _, _, by omega, by go_num, rfl, rfl, HM3.out, HS2.out, St.out, Kt.out⟩
            case measure => simp [intOf]; omega
        · have g1 := h2 hE
          have S2 := Lib.hid g1
          have hne : (cutE rs (a, l) == 0) = false := by simpa using hE
          subst h1
          clear h2 h3 hk hra hE g1
          generalize cutE rs (a, l) = er at *
          go_wp2_with fail
          refine (has_any _ W.heap.size sb rs S2.out i I0.out I1.out).mono ?_
          rintro e wh ⟨rfl, hb⟩
          rw [HM.out]
          have Sh := Lib.hid (S2.out.nx hb)
          have Kh := Lib.hid (Ka.out.t (KpR.of_below hb Ka.out.2.1))
          clear hb
          have rr1 : (m != m) = false := by simp
          go_wp2_with fail
          refine (total_set _ W.heap.size sb rs Sh.out).mono ?_
          rintro e wt ⟨rfl, hb⟩
          rw [HS.out]
          have St := Lib.hid (Sh.out.nx hb)
          have Kt := Lib.hid (Kh.out.t (KpR.of_below hb Kh.out.2.1))
          clear hb
          go_wp2_with fail
          go_roundw
          case rel => exact ⟨q + 1, rs, _, _, by omega, by go_num, rfl, rfl, HM.out, HS.out, St.out, Kt.out⟩
          case measure => simp [intOf]; omega
      have qd0 : (d == 0) = false := by simpa using hd0
      have qd1 : (d == 1) = false := by simpa using hd1
      go_wp2_with fail
      refine (has_any _ W.heap.size sb rs Sb.out i I0.out I1.out).mono ?_
      rintro e wh ⟨rfl, hb⟩
      rw [HM.out]
      have Sh := Lib.hid (Sb.out.nx hb)
      have Kh := Lib.hid (Kb.out.t (KpR.of_below hb Kb.out.2.1))
      clear hb
      have rr1 : (m != m) = false := by simp
      go_wp2_with fail
      refine (total_set _ W.heap.size sb rs Sh.out).mono ?_
      rintro e wt ⟨rfl, hb⟩
      rw [HS.out]
      have St := Lib.hid (Sh.out.nx hb)
      have Kt := Lib.hid (Kh.out.t (KpR.of_below hb Kh.out.2.1))
      clear hb
      go_wp2_with fail
      go_roundw
      case rel => exact ⟨q + 1, rs, _, _, by omega, by go_num, rfl, rfl, HM.out, HS.out, St.out, Kt.out⟩
      case measure => simp [intOf]; omega
end Go.Proofs.Ytpkbmdibiefbdaa
