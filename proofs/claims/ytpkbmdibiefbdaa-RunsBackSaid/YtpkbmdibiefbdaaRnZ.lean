/- The law RunsBack: the walk. -/
import Derived.Test.YtpkbmdibiefbdaaRnV
import Derived.Test.YtpkbmdibiefbdaaRnW
import Derived.Test.YtpkbmdibiefbdaaFrameR
import Derived.Deep.RegionWith
namespace Go.Proofs.Ytpkbmdibiefbdaa
open Go.RowKit
set_option linter.unusedVariables false
set_option linter.unusedSimpArgs false

theorem addE_zero {rs : List Rn} {r : Rn} (h : addE rs r = 0) : mayB r.1 r.2 = true ∧ addH rs r = false := by
  unfold addE at h
  cases hm : mayB r.1 r.2
  · simp [hm] at h
  · cases ha : addH rs r
    · exact ⟨rfl, rfl⟩
    · simp [hm, ha] at h
theorem cutE_zero {rs : List Rn} {r : Rn} (h : cutE rs r = 0) : mayB r.1 r.2 = true ∧ cutH rs r = true := by
  unfold cutE at h
  cases hm : mayB r.1 r.2
  · simp [hm] at h
  · cases ha : cutH rs r
    · simp [hm, ha] at h
    · exact ⟨rfl, rfl⟩
theorem may_len {r : Rn} (h : mayB r.1 r.2 = true) : 0 ≤ r.1 ∧ 1 ≤ r.2 ∧ r.1 + r.2 ≤ 65536 := by
  simp only [mayB, decide_eq_true_eq] at h
  omega
theorem addH_no {rs : List Rn} {r : Rn} (h : addH rs r = false) {i : Int} (hi : inR r i = true) : memR rs i = false := by
  cases hm : memR rs i
  · rfl
  · obtain ⟨n, hn, hj⟩ := List.any_eq_true.1 hm
    have g1 := inR_iff.1 hi
    have g2 := inR_iff.1 hj
    have h2 : addH rs r = true := List.any_eq_true.2 ⟨n, hn, by simp [meetB]; omega⟩
    rw [h] at h2
    cases h2
theorem addH_of {rs : List Rn} {r : Rn} (hg : GoodR rs) (h1 : 1 ≤ r.2) (h : ∀ i, inR r i = true → memR rs i = false) : addH rs r = false := by
  cases ha : addH rs r
  · rfl
  · obtain ⟨n, hn, hj⟩ := List.any_eq_true.1 ha
    have h2 := hg.1.1 n hn
    simp [meetB] at hj
    have h3 := h (max r.1 n.1) (inR_iff.2 ⟨by omega, by omega⟩)
    rw [memR_of hn (inR_iff.2 ⟨by omega, by omega⟩)] at h3
    cases h3
theorem cutH_of {rs : List Rn} {r : Rn} (hg : GoodR rs) (h1 : 1 ≤ r.2) (h : ∀ i, inR r i = true → memR rs i = true) : cutH rs r = true := by
  obtain ⟨n, hn, h2, h3⟩ := apt_all hg.1 h1 h
  exact List.any_eq_true.2 ⟨n, hn, by simp; omega⟩
theorem cutH_in {rs : List Rn} {r : Rn} (h : cutH rs r = true) {i : Int} (hi : inR r i = true) : memR rs i = true := by
  obtain ⟨n, hn, hj⟩ := List.any_eq_true.1 h
  simp at hj
  have g1 := inR_iff.1 hi
  exact memR_of hn (inR_iff.2 ⟨by omega, by omega⟩)
/-- What was added can be cut, and it is as it was. -/
theorem add_cut {rs rs1 : List Rn} {r : Rn} (hg1 : GoodR rs1) (h : addE rs r = 0) (hm : ∀ i, memR rs1 i = (memR rs i || inR r i)) : cutE rs1 r = 0 ∧ ∀ rs2, (∀ i, memR rs2 i = (memR rs1 i && !inR r i)) → ∀ i, memR rs2 i = memR rs i := by
  obtain ⟨h1, h2⟩ := addE_zero h
  refine ⟨?_, fun rs2 h3 i => ?_⟩
  · have h4 := cutH_of hg1 (may_len h1).2.1 (fun i hi => by rw [hm, hi]; simp)
    simp [cutE, h1, h4]
  · rw [h3, hm]
    cases hi : inR r i
    · simp
    · rw [addH_no h2 hi]; rfl
theorem cut_add {rs rs1 : List Rn} {r : Rn} (hg1 : GoodR rs1) (h : cutE rs r = 0) (hm : ∀ i, memR rs1 i = (memR rs i && !inR r i)) : addE rs1 r = 0 ∧ ∀ rs2, (∀ i, memR rs2 i = (memR rs1 i || inR r i)) → ∀ i, memR rs2 i = memR rs i := by
  obtain ⟨h1, h2⟩ := cutE_zero h
  refine ⟨?_, fun rs2 h3 i => ?_⟩
  · have h4 := addH_of hg1 (may_len h1).2.1 (fun i hi => by rw [hm, hi]; simp)
    simp [addE, h1, h4]
  · rw [h3, hm]
    cases hi : inR r i
    · simp
    · rw [cutH_in h2 hi]; rfl
theorem first_cut {rs : List Rn} (hg : GoodR rs) {r : Rn} {k fr : Int} (hr : r ∈ rs) (h : frB r k fr = true) (hk : 1 ≤ k) : cutE rs (max r.1 fr, k) = 0 := by
  have hb := good_bd hg hr
  simp only [frB, decide_eq_true_eq] at h
  have h1 : mayB (max r.1 fr) k = true := by simp only [mayB, decide_eq_true_eq]; omega
  have h2 : cutH rs (max r.1 fr, k) = true := List.any_eq_true.2 ⟨r, hr, by simp; omega⟩
  simp [cutE, h1, h2]
theorem set_gd {w : World} {B sb : Nat} {rs : List Rn} (h : IsSet w B sb rs) : GoodR rs := by
  obtain ⟨_, _, _, _, hg⟩ := h
  exact hg
theorem gd_len {rs : List Rn} (h : GoodR rs) : (rs.length : Int) ≤ 65536 := by
  have h1 := sum_bd h rs.length
  rw [List.take_length] at h1
  have h2 : ∀ l : List Rn, (∀ r ∈ l, 1 ≤ r.2) → (l.length : Int) ≤ sumR l := by
    intro l
    induction l with
    | nil => intro _; simp [sumR]
    | cons x t ih =>
      intro hl
      have := ih (fun r hr => hl r (List.mem_cons_of_mem _ hr))
      have := hl x (by simp)
      rw [sumR_cons, List.length_cons]
      omega
  have := h2 rs h.1.1
  omega

set_option maxRecDepth 100000 in
set_option maxHeartbeats 16000000 in
theorem runsBack_walk (W : World) (A : Option Addr) (len cap : Nat) (ts : List Stq) (h : StepsQ W A len cap ts) (a l : Int) (a0 : -9223372036854775808 ≤ a) (a1 : a ≤ 9223372036854775807) (l0 : -9223372036854775808 ≤ l) (l1 : l ≤ 9223372036854775807) (n : Int) (n0 : -9223372036854775808 ≤ n) (n1 : n ≤ 9223372036854775807) (fr : Int) (f0 : -9223372036854775808 ≤ fr) (f1 : fr ≤ 9223372036854775807) :
    Calls Try.prog 3 #[.slice A len cap, .agg #[.int .i64 a, .int .i64 l], .int .i64 n, .int .i64 fr] W fun e w' => e = .returned (.bool true) ∧ Below W.heap.size W w' := by
  have HH := Lib.hid h
  have hlen : len ≤ 9223372036854775807 := Nat.le_trans h.le h.mx
  have N0 := Lib.hid n0
  have N1 := Lib.hid n1
  have F0 := Lib.hid f0
  have F1 := Lib.hid f1
  have hb0 := balloc (Below.refl _ W) (.cells #[.int .i64 a, .int .i64 l] 24)
  have BW := Lib.hid hb0
  have X0 := Lib.hid (Blk.new W 24 #[.int .i64 a, .int .i64 l])
  clear h hb0 a0 a1 l0 l1 n0 n1 f0 f1
  by_cases hl0 : 60 < len
  · go_enter Try.func3, Try.ntmps3
    go_wp2_with fail
    refine (alive04 _).mono ?_
    rintro e w1 ⟨rfl, hb⟩
    go_wp2_with fail
    go_ret
    exact ⟨rfl, bnext BW.out hb⟩
  go_enter Try.func3, Try.ntmps3
  go_wp2_with fail
  obtain ⟨Wb, hWb⟩ : ∃ Wb, W.alloc (.cells #[.int .i64 a, .int .i64 l] 24) = Wb := ⟨_, rfl⟩
  rw [hWb] at BW X0
  rw [hWb]
  clear hWb
  refine (rnew_set Wb).mono ?_
  rintro e w1 ⟨rfl, hS, hb⟩
  obtain ⟨sb, hsb⟩ : ∃ sb, Wb.heap.size + 1 = sb := ⟨_, rfl⟩
  rw [hsb] at hS
  rw [hsb]
  have S1 := Lib.hid hS
  have B1 := Lib.hid (KpR.of_below hb (Nat.le_refl _)).x
  clear hS hb hsb
  go_wp2_with fail
  go_loopw [10] (fun k wr => ∃ (q : Nat) (rs : List Rn), q ≤ len ∧ k = .int .i64 (q : Int) ∧ IsSet wr Wb.heap.size sb rs ∧ KpX Wb.heap.size Wb wr) (fun k _ => len - (intOf k).toNat)
  case atStart => exact ⟨0, [], Nat.zero_le _, rfl, S1.out, B1.out⟩
  case round =>
    obtain ⟨q, rs, hq, rfl, hS, hK⟩ := hrel
    have ST := Lib.hid hS
    have KK := Lib.hid hK
    clear hS hK S1 B1
    by_cases hlt : q < len
    · obtain ⟨b4, o4, rfl, hb4, p0, p1, p2⟩ := HH.out.r.sq hlt
      have P0 := Lib.hid p0
      have P1 := Lib.hid p1
      have P2 := Lib.hid p2
      clear p0 p1 p2
      generalize ts.getD q (0, 0, 0) = t at *
      obtain ⟨d, sa, sl⟩ := t
      dsimp only at P0 P1 P2
      have HC := Lib.hid (fun X (hX : Below Wb.heap.size Wb X) => show X.cell? ⟨b4, o4 + q * 3, none⟩ = some (.int .i64 d) ∧ X.cell? ⟨b4, o4 + q * 3 + 1, none⟩ = some (.int .i64 sa) ∧ X.cell? ⟨b4, o4 + q * 3 + 2, none⟩ = some (.int .i64 sl) from
        have hY := BW.out.trans (hX.mono BW.out.size)
        ⟨(hY.cell (p := ⟨b4, o4 + q * 3, none⟩) hb4).trans P0.out, (hY.cell (p := ⟨b4, o4 + q * 3 + 1, none⟩) hb4).trans P1.out, (hY.cell (p := ⟨b4, o4 + q * 3 + 2, none⟩) hb4).trans P2.out⟩)
      obtain ⟨r0, r1, r2⟩ := HC.out wr KK.out.1
      have SD := Lib.hid (ST.out.nx (Below.refl _ wr).drew)
      have KD := Lib.hid (KK.out.t (KpR.of_below ((Below.refl _ wr).drew) KK.out.2.1).x)
      go_wp2_with fail
      go_region_with (first | (go_at_call 9; refine (rnew4_any _).mono ?_; rintro e wa ⟨nn, rb, bb, gb, cs, rfl, hnn, hi4, hgb, hbn⟩; obtain ⟨s0, s1, s2⟩ := HC.out wa (KD.out.1.trans (hbn.mono KD.out.2.1))) | (go_at_call 8; refine (does_any _ Wb.heap.size sb rs (SD.out.nx hbn) (Nat.le_trans KD.out.2.1 hbn.size) nn rb bb gb cs hi4 hnn (Nat.le_trans KD.out.2.1 hgb) d sa sl).mono ?_; rintro e wc ⟨⟨bv, rfl⟩, hs3, hk3⟩))
      all_goals
        obtain ⟨rs3, hs3⟩ := hs3
        have S3 := Lib.hid hs3
        have K3 := Lib.hid ((KD.out.t (KpR.of_below hbn KD.out.2.1).x).t hk3)
        clear hs3 hk3 hi4 hgb hbn s0 s1 s2 r0 r1 r2
        go_wp2_with fail
        go_roundw
        case rel => exact ⟨q + 1, rs3, by omega, by go_num, S3.out, K3.out⟩
        case measure => simp [intOf]; omega
    · skip
      have hgd := set_gd ST.out
      have hln := gd_len hgd
      go_wp2_with fail
      refine (list_any wr Wb.heap.size sb rs ST.out (by omega)).mono ?_
      rintro e wp ⟨v, rfl, ho, hb⟩
      obtain ⟨A5, c5, rfl, _⟩ := own_form ho
      have HGD := Lib.hid hgd
      have HAP := Lib.hid hgd.1
      have HLN := Lib.hid (show rs.length ≤ 65536 by omega)
      have OW := Lib.hid ho
      have S := Lib.hid (ST.out.nx hb)
      have KQ := KK.out.t (KpR.of_below hb KK.out.2.1).x
      have KP := Lib.hid KQ.1
      have HBP := Lib.hid KQ.2.1
      have XP := Lib.hid (KQ.2.2 _ _ _ (by decide) (by decide) X0.out)
      have K := Lib.hid (KpX.refl Wb.heap.size wp)
      clear hgd hln ho hb KQ ST KK
      obtain ⟨bx0, bx1⟩ := (K.out.2.2 _ _ _ (by decide) (by decide) XP.out).c2
      go_wp2_with fail
      refine (add_any _ Wb.heap.size sb rs S.out (Nat.le_trans HBP.out K.out.2.1) a l).mono ?_
      rintro e wx1 ⟨h1, h2, h3, hk⟩
      clear bx0 bx1
      by_cases hE : addE rs (a, l) = 0
      · obtain ⟨rs1, g1, g2, _⟩ := h3 hE
        obtain ⟨hc, hbk⟩ := add_cut (set_gd g1) hE g2
        rw [hE] at h1
        subst h1
        have HC := Lib.hid hc
        have HBK := Lib.hid hbk
        have S1 := Lib.hid g1
        have K1 := Lib.hid (K.out.t hk.x)
        clear S K g1 g2 hc hbk h2 h3 hk hE
        obtain ⟨bx0, bx1⟩ := (K1.out.2.2 _ _ _ (by decide) (by decide) XP.out).c2
        go_wp2_with fail
        refine (cut_any _ Wb.heap.size sb rs1 S1.out (Nat.le_trans HBP.out K1.out.2.1) a l).mono ?_
        rintro e wx2 ⟨h1, _, h3, hk⟩
        obtain ⟨rs2, g1, g2, _⟩ := h3 HC.out
        have hrs := set_is g1 HAP.out (HBK.out rs2 g2)
        rw [hrs] at g1
        rw [HC.out] at h1
        subst h1
        have S := Lib.hid g1
        have K := Lib.hid (K1.out.t hk.x)
        clear S1 K1 g1 g2 h3 hk HC HBK hrs bx0 bx1
        go_wp2_with fail
        refine (list_any _ Wb.heap.size sb rs S.out (by have := HLN.out; omega)).mono ?_
        rintro e wx3 ⟨vx3, rfl, ho, hb⟩
        obtain ⟨Ax3, cx3, rfl, _⟩ := own_form ho
        have Sx := Lib.hid (S.out.nx hb)
        have Kx := Lib.hid (K.out.t (KpR.of_below hb (Nat.le_trans HBP.out K.out.2.1)).x)
        have Rx := Lib.hid (Reads.of_own ho)
        have Ox := Lib.hid (own_kp OW.out fun b cs h => Kx.out.2.2 _ _ _ (by decide) (by decide) h)
        clear ho hb S K
        go_wp2_with fail
        refine (sameR_any _ Ax3 A5 rs.length cx3 rs.length c5 rs rs Rx.out (Reads.of_own Ox.out) (by have := HLN.out; omega) (by have := HLN.out; omega)).mono ?_
        rintro e wx4 ⟨rfl, hb⟩
        rw [show decide (rs = rs) = true by simp]
        have S := Lib.hid (Sx.out.nx hb)
        have K := Lib.hid (Kx.out.t (KpR.of_below hb (Nat.le_trans HBP.out Kx.out.2.1)).x)
        clear hb Sx Kx Rx Ox
        obtain ⟨bx0, bx1⟩ := (K.out.2.2 _ _ _ (by decide) (by decide) XP.out).c2
        go_wp2_with fail
        refine (cut_any _ Wb.heap.size sb rs S.out (Nat.le_trans HBP.out K.out.2.1) a l).mono ?_
        rintro e wx5 ⟨h1, h2, h3, hk⟩
        clear bx0 bx1
        by_cases hE : cutE rs (a, l) = 0
        · obtain ⟨rs1, g1, g2, _⟩ := h3 hE
          obtain ⟨hc, hbk⟩ := cut_add (set_gd g1) hE g2
          rw [hE] at h1
          subst h1
          have HC := Lib.hid hc
          have HBK := Lib.hid hbk
          have S1 := Lib.hid g1
          have K1 := Lib.hid (K.out.t hk.x)
          clear S K g1 g2 hc hbk h2 h3 hk hE
          obtain ⟨bx0, bx1⟩ := (K1.out.2.2 _ _ _ (by decide) (by decide) XP.out).c2
          go_wp2_with fail
          refine (add_any _ Wb.heap.size sb rs1 S1.out (Nat.le_trans HBP.out K1.out.2.1) a l).mono ?_
          rintro e wx6 ⟨h1, _, h3, hk⟩
          obtain ⟨rs2, g1, g2, _⟩ := h3 HC.out
          have hrs := set_is g1 HAP.out (HBK.out rs2 g2)
          rw [hrs] at g1
          rw [HC.out] at h1
          subst h1
          have S := Lib.hid g1
          have K := Lib.hid (K1.out.t hk.x)
          clear S1 K1 g1 g2 h3 hk HC HBK hrs bx0 bx1
          go_wp2_with fail
          refine (list_any _ Wb.heap.size sb rs S.out (by have := HLN.out; omega)).mono ?_
          rintro e wx7 ⟨vx7, rfl, ho, hb⟩
          obtain ⟨Ax7, cx7, rfl, _⟩ := own_form ho
          have Sx := Lib.hid (S.out.nx hb)
          have Kx := Lib.hid (K.out.t (KpR.of_below hb (Nat.le_trans HBP.out K.out.2.1)).x)
          have Rx := Lib.hid (Reads.of_own ho)
          have Ox := Lib.hid (own_kp OW.out fun b cs h => Kx.out.2.2 _ _ _ (by decide) (by decide) h)
          clear ho hb S K
          go_wp2_with fail
          refine (sameR_any _ Ax7 A5 rs.length cx7 rs.length c5 rs rs Rx.out (Reads.of_own Ox.out) (by have := HLN.out; omega) (by have := HLN.out; omega)).mono ?_
          rintro e wx8 ⟨rfl, hb⟩
          rw [show decide (rs = rs) = true by simp]
          have S := Lib.hid (Sx.out.nx hb)
          have K := Lib.hid (Kx.out.t (KpR.of_below hb (Nat.le_trans HBP.out Kx.out.2.1)).x)
          clear hb Sx Kx Rx Ox
          go_wp2_with fail
          refine (first_any _ Wb.heap.size sb rs S.out n fr F0.out F1.out N0.out N1.out).mono ?_
          rintro e wx9 ⟨⟨xa, xl⟩, b, rfl, hv, hb⟩
          have Sq := Lib.hid (S.out.nx (balloc hb (.cells #[.int .i64 xa, .int .i64 xl] 24)))
          have Kq := Lib.hid (K.out.t ((KpR.of_below (balloc hb (.cells #[.int .i64 xa, .int .i64 xl] 24)) (Nat.le_trans HBP.out K.out.2.1)).x))
          have XB := Lib.hid (Blk.new wx9 24 #[.int .i64 xa, .int .i64 xl])
          clear hb S K
          have S := Sq
          have K := Kq
          clear Sq Kq
          rcases hv with ⟨rfl, hk1, r, hr, hf, he⟩ | ⟨rfl, he, _⟩
          · have hc := first_cut HGD.out hr hf hk1
            rw [← he] at hc
            obtain ⟨rfl, rfl⟩ : xa = max r.1 fr ∧ xl = n := by simpa using he
            have HFR := Lib.hid (show fr ≤ max r.1 fr by omega)
            have HC := Lib.hid hc
            clear hc he hf hr hk1
            generalize max r.1 fr = xa at *
            obtain ⟨y0, y1⟩ := XB.out.c2
            have q1 : (xl == xl) = true := by simp
            have q2 : decide (fr ≤ xa) = true := by have := HFR.out; simpa using this
            go_wp2_with fail
            refine (cut_any _ Wb.heap.size sb rs S.out (Nat.le_trans HBP.out K.out.2.1) xa xl).mono ?_
            rintro e wx10 ⟨h1, _, h3, hk⟩
            obtain ⟨rs1, g1, g2, _⟩ := h3 HC.out
            obtain ⟨hc, hbk⟩ := cut_add (set_gd g1) HC.out g2
            rw [HC.out] at h1
            subst h1
            have HC2 := Lib.hid hc
            have HBK := Lib.hid hbk
            have S1 := Lib.hid g1
            have K1 := Lib.hid (K.out.t hk.x)
            have XB1 := Lib.hid (hk.2.2 _ _ _ (by decide) XB.out)
            clear S K g1 g2 hc hbk h3 hk y0 y1 XB
            obtain ⟨y0, y1⟩ := XB1.out.c2
            go_wp2_with fail
            refine (add_any _ Wb.heap.size sb rs1 S1.out (Nat.le_trans HBP.out K1.out.2.1) xa xl).mono ?_
            rintro e wx11 ⟨h1, _, h3, hk⟩
            obtain ⟨rs2, g1, g2, _⟩ := h3 HC2.out
            have hrs := set_is g1 HAP.out (HBK.out rs2 g2)
            rw [hrs] at g1
            rw [HC2.out] at h1
            subst h1
            have S := Lib.hid g1
            have K := Lib.hid (K1.out.t hk.x)
            clear S1 K1 g1 g2 h3 hk HC HC2 HBK hrs y0 y1 XB1
            go_wp2_with fail
            refine (list_any _ Wb.heap.size sb rs S.out (by have := HLN.out; omega)).mono ?_
            rintro e wx12 ⟨vx12, rfl, ho, hb⟩
            obtain ⟨Ax12, cx12, rfl, _⟩ := own_form ho
            have Sx := Lib.hid (S.out.nx hb)
            have Kx := Lib.hid (K.out.t (KpR.of_below hb (Nat.le_trans HBP.out K.out.2.1)).x)
            have Rx := Lib.hid (Reads.of_own ho)
            have Ox := Lib.hid (own_kp OW.out fun b cs h => Kx.out.2.2 _ _ _ (by decide) (by decide) h)
            clear ho hb S K
            go_wp2_with fail
            refine (sameR_any _ Ax12 A5 rs.length cx12 rs.length c5 rs rs Rx.out (Reads.of_own Ox.out) (by have := HLN.out; omega) (by have := HLN.out; omega)).mono ?_
            rintro e wx13 ⟨rfl, hb⟩
            rw [show decide (rs = rs) = true by simp]
            have S := Lib.hid (Sx.out.nx hb)
            have K := Lib.hid (Kx.out.t (KpR.of_below hb (Nat.le_trans HBP.out Kx.out.2.1)).x)
            clear hb Sx Kx Rx Ox
            go_wp2_with fail
            refine (alive04 _).mono ?_
            rintro e wl ⟨rfl, hb⟩
            go_wp2_with fail
            go_ret
            exact ⟨rfl, BW.out.trans ((KP.out.trans (K.out.1.trans (hb.mono (Nat.le_trans HBP.out K.out.2.1)))).mono BW.out.size)⟩
          · obtain ⟨rfl, rfl⟩ : xa = 0 ∧ xl = 0 := by simpa using he
            obtain ⟨y0, y1⟩ := XB.out.c2
            clear he
            go_wp2_with fail
            refine (alive04 _).mono ?_
            rintro e wl ⟨rfl, hb⟩
            go_wp2_with fail
            go_ret
            exact ⟨rfl, BW.out.trans ((KP.out.trans (K.out.1.trans (hb.mono (Nat.le_trans HBP.out K.out.2.1)))).mono BW.out.size)⟩
        · have g1 := h2 hE
          have hne : (cutE rs (a, l) == 0) = false := by simpa using hE
          subst h1
          have S1 := Lib.hid g1
          have K1 := Lib.hid (K.out.t hk.x)
          clear S K g1 h2 h3 hk hE
          have S := S1
          have K := K1
          clear S1 K1
          generalize cutE rs (a, l) = erx5 at *
          go_wp2_with fail
          refine (list_any _ Wb.heap.size sb rs S.out (by have := HLN.out; omega)).mono ?_
          rintro e wx14 ⟨vx14, rfl, ho, hb⟩
          obtain ⟨Ax14, cx14, rfl, _⟩ := own_form ho
          have Sx := Lib.hid (S.out.nx hb)
          have Kx := Lib.hid (K.out.t (KpR.of_below hb (Nat.le_trans HBP.out K.out.2.1)).x)
          have Rx := Lib.hid (Reads.of_own ho)
          have Ox := Lib.hid (own_kp OW.out fun b cs h => Kx.out.2.2 _ _ _ (by decide) (by decide) h)
          clear ho hb S K
          go_wp2_with fail
          refine (sameR_any _ Ax14 A5 rs.length cx14 rs.length c5 rs rs Rx.out (Reads.of_own Ox.out) (by have := HLN.out; omega) (by have := HLN.out; omega)).mono ?_
          rintro e wx15 ⟨rfl, hb⟩
          rw [show decide (rs = rs) = true by simp]
          have S := Lib.hid (Sx.out.nx hb)
          have K := Lib.hid (Kx.out.t (KpR.of_below hb (Nat.le_trans HBP.out Kx.out.2.1)).x)
          clear hb Sx Kx Rx Ox
          go_wp2_with fail
          refine (first_any _ Wb.heap.size sb rs S.out n fr F0.out F1.out N0.out N1.out).mono ?_
          rintro e wx16 ⟨⟨xa, xl⟩, b, rfl, hv, hb⟩
          have Sq := Lib.hid (S.out.nx (balloc hb (.cells #[.int .i64 xa, .int .i64 xl] 24)))
          have Kq := Lib.hid (K.out.t ((KpR.of_below (balloc hb (.cells #[.int .i64 xa, .int .i64 xl] 24)) (Nat.le_trans HBP.out K.out.2.1)).x))
          have XB := Lib.hid (Blk.new wx16 24 #[.int .i64 xa, .int .i64 xl])
          clear hb S K
          have S := Sq
          have K := Kq
          clear Sq Kq
          rcases hv with ⟨rfl, hk1, r, hr, hf, he⟩ | ⟨rfl, he, _⟩
          · have hc := first_cut HGD.out hr hf hk1
            rw [← he] at hc
            obtain ⟨rfl, rfl⟩ : xa = max r.1 fr ∧ xl = n := by simpa using he
            have HFR := Lib.hid (show fr ≤ max r.1 fr by omega)
            have HC := Lib.hid hc
            clear hc he hf hr hk1
            generalize max r.1 fr = xa at *
            obtain ⟨y0, y1⟩ := XB.out.c2
            have q1 : (xl == xl) = true := by simp
            have q2 : decide (fr ≤ xa) = true := by have := HFR.out; simpa using this
            go_wp2_with fail
            refine (cut_any _ Wb.heap.size sb rs S.out (Nat.le_trans HBP.out K.out.2.1) xa xl).mono ?_
            rintro e wx17 ⟨h1, _, h3, hk⟩
            obtain ⟨rs1, g1, g2, _⟩ := h3 HC.out
            obtain ⟨hc, hbk⟩ := cut_add (set_gd g1) HC.out g2
            rw [HC.out] at h1
            subst h1
            have HC2 := Lib.hid hc
            have HBK := Lib.hid hbk
            have S1 := Lib.hid g1
            have K1 := Lib.hid (K.out.t hk.x)
            have XB1 := Lib.hid (hk.2.2 _ _ _ (by decide) XB.out)
            clear S K g1 g2 hc hbk h3 hk y0 y1 XB
            obtain ⟨y0, y1⟩ := XB1.out.c2
            go_wp2_with fail
            refine (add_any _ Wb.heap.size sb rs1 S1.out (Nat.le_trans HBP.out K1.out.2.1) xa xl).mono ?_
            rintro e wx18 ⟨h1, _, h3, hk⟩
            obtain ⟨rs2, g1, g2, _⟩ := h3 HC2.out
            have hrs := set_is g1 HAP.out (HBK.out rs2 g2)
            rw [hrs] at g1
            rw [HC2.out] at h1
            subst h1
            have S := Lib.hid g1
            have K := Lib.hid (K1.out.t hk.x)
            clear S1 K1 g1 g2 h3 hk HC HC2 HBK hrs y0 y1 XB1
            go_wp2_with fail
            refine (list_any _ Wb.heap.size sb rs S.out (by have := HLN.out; omega)).mono ?_
            rintro e wx19 ⟨vx19, rfl, ho, hb⟩
            obtain ⟨Ax19, cx19, rfl, _⟩ := own_form ho
            have Sx := Lib.hid (S.out.nx hb)
            have Kx := Lib.hid (K.out.t (KpR.of_below hb (Nat.le_trans HBP.out K.out.2.1)).x)
            have Rx := Lib.hid (Reads.of_own ho)
            have Ox := Lib.hid (own_kp OW.out fun b cs h => Kx.out.2.2 _ _ _ (by decide) (by decide) h)
            clear ho hb S K
            go_wp2_with fail
            refine (sameR_any _ Ax19 A5 rs.length cx19 rs.length c5 rs rs Rx.out (Reads.of_own Ox.out) (by have := HLN.out; omega) (by have := HLN.out; omega)).mono ?_
            rintro e wx20 ⟨rfl, hb⟩
            rw [show decide (rs = rs) = true by simp]
            have S := Lib.hid (Sx.out.nx hb)
            have K := Lib.hid (Kx.out.t (KpR.of_below hb (Nat.le_trans HBP.out Kx.out.2.1)).x)
            clear hb Sx Kx Rx Ox
            go_wp2_with fail
            refine (alive04 _).mono ?_
            rintro e wl ⟨rfl, hb⟩
            go_wp2_with fail
            go_ret
            exact ⟨rfl, BW.out.trans ((KP.out.trans (K.out.1.trans (hb.mono (Nat.le_trans HBP.out K.out.2.1)))).mono BW.out.size)⟩
          · obtain ⟨rfl, rfl⟩ : xa = 0 ∧ xl = 0 := by simpa using he
            obtain ⟨y0, y1⟩ := XB.out.c2
            clear he
            go_wp2_with fail
            refine (alive04 _).mono ?_
            rintro e wl ⟨rfl, hb⟩
            go_wp2_with fail
            go_ret
            exact ⟨rfl, BW.out.trans ((KP.out.trans (K.out.1.trans (hb.mono (Nat.le_trans HBP.out K.out.2.1)))).mono BW.out.size)⟩
      · have g1 := h2 hE
        have hne : (addE rs (a, l) == 0) = false := by simpa using hE
        subst h1
        have S1 := Lib.hid g1
        have K1 := Lib.hid (K.out.t hk.x)
        clear S K g1 h2 h3 hk hE
        have S := S1
        have K := K1
        clear S1 K1
        generalize addE rs (a, l) = erx1 at *
        go_wp2_with fail
        refine (list_any _ Wb.heap.size sb rs S.out (by have := HLN.out; omega)).mono ?_
        rintro e wx21 ⟨vx21, rfl, ho, hb⟩
        obtain ⟨Ax21, cx21, rfl, _⟩ := own_form ho
        have Sx := Lib.hid (S.out.nx hb)
        have Kx := Lib.hid (K.out.t (KpR.of_below hb (Nat.le_trans HBP.out K.out.2.1)).x)
        have Rx := Lib.hid (Reads.of_own ho)
        have Ox := Lib.hid (own_kp OW.out fun b cs h => Kx.out.2.2 _ _ _ (by decide) (by decide) h)
        clear ho hb S K
        go_wp2_with fail
        refine (sameR_any _ Ax21 A5 rs.length cx21 rs.length c5 rs rs Rx.out (Reads.of_own Ox.out) (by have := HLN.out; omega) (by have := HLN.out; omega)).mono ?_
        rintro e wx22 ⟨rfl, hb⟩
        rw [show decide (rs = rs) = true by simp]
        have S := Lib.hid (Sx.out.nx hb)
        have K := Lib.hid (Kx.out.t (KpR.of_below hb (Nat.le_trans HBP.out Kx.out.2.1)).x)
        clear hb Sx Kx Rx Ox
        obtain ⟨bx0, bx1⟩ := (K.out.2.2 _ _ _ (by decide) (by decide) XP.out).c2
        go_wp2_with fail
        refine (cut_any _ Wb.heap.size sb rs S.out (Nat.le_trans HBP.out K.out.2.1) a l).mono ?_
        rintro e wx23 ⟨h1, h2, h3, hk⟩
        clear bx0 bx1
        by_cases hE : cutE rs (a, l) = 0
        · obtain ⟨rs1, g1, g2, _⟩ := h3 hE
          obtain ⟨hc, hbk⟩ := cut_add (set_gd g1) hE g2
          rw [hE] at h1
          subst h1
          have HC := Lib.hid hc
          have HBK := Lib.hid hbk
          have S1 := Lib.hid g1
          have K1 := Lib.hid (K.out.t hk.x)
          clear S K g1 g2 hc hbk h2 h3 hk hE
          obtain ⟨bx0, bx1⟩ := (K1.out.2.2 _ _ _ (by decide) (by decide) XP.out).c2
          go_wp2_with fail
          refine (add_any _ Wb.heap.size sb rs1 S1.out (Nat.le_trans HBP.out K1.out.2.1) a l).mono ?_
          rintro e wx24 ⟨h1, _, h3, hk⟩
          obtain ⟨rs2, g1, g2, _⟩ := h3 HC.out
          have hrs := set_is g1 HAP.out (HBK.out rs2 g2)
          rw [hrs] at g1
          rw [HC.out] at h1
          subst h1
          have S := Lib.hid g1
          have K := Lib.hid (K1.out.t hk.x)
          clear S1 K1 g1 g2 h3 hk HC HBK hrs bx0 bx1
          go_wp2_with fail
          refine (list_any _ Wb.heap.size sb rs S.out (by have := HLN.out; omega)).mono ?_
          rintro e wx25 ⟨vx25, rfl, ho, hb⟩
          obtain ⟨Ax25, cx25, rfl, _⟩ := own_form ho
          have Sx := Lib.hid (S.out.nx hb)
          have Kx := Lib.hid (K.out.t (KpR.of_below hb (Nat.le_trans HBP.out K.out.2.1)).x)
          have Rx := Lib.hid (Reads.of_own ho)
          have Ox := Lib.hid (own_kp OW.out fun b cs h => Kx.out.2.2 _ _ _ (by decide) (by decide) h)
          clear ho hb S K
          go_wp2_with fail
          refine (sameR_any _ Ax25 A5 rs.length cx25 rs.length c5 rs rs Rx.out (Reads.of_own Ox.out) (by have := HLN.out; omega) (by have := HLN.out; omega)).mono ?_
          rintro e wx26 ⟨rfl, hb⟩
          rw [show decide (rs = rs) = true by simp]
          have S := Lib.hid (Sx.out.nx hb)
          have K := Lib.hid (Kx.out.t (KpR.of_below hb (Nat.le_trans HBP.out Kx.out.2.1)).x)
          clear hb Sx Kx Rx Ox
          go_wp2_with fail
          refine (first_any _ Wb.heap.size sb rs S.out n fr F0.out F1.out N0.out N1.out).mono ?_
          rintro e wx27 ⟨⟨xa, xl⟩, b, rfl, hv, hb⟩
          have Sq := Lib.hid (S.out.nx (balloc hb (.cells #[.int .i64 xa, .int .i64 xl] 24)))
          have Kq := Lib.hid (K.out.t ((KpR.of_below (balloc hb (.cells #[.int .i64 xa, .int .i64 xl] 24)) (Nat.le_trans HBP.out K.out.2.1)).x))
          have XB := Lib.hid (Blk.new wx27 24 #[.int .i64 xa, .int .i64 xl])
          clear hb S K
          have S := Sq
          have K := Kq
          clear Sq Kq
          rcases hv with ⟨rfl, hk1, r, hr, hf, he⟩ | ⟨rfl, he, _⟩
          · have hc := first_cut HGD.out hr hf hk1
            rw [← he] at hc
            obtain ⟨rfl, rfl⟩ : xa = max r.1 fr ∧ xl = n := by simpa using he
            have HFR := Lib.hid (show fr ≤ max r.1 fr by omega)
            have HC := Lib.hid hc
            clear hc he hf hr hk1
            generalize max r.1 fr = xa at *
            obtain ⟨y0, y1⟩ := XB.out.c2
            have q1 : (xl == xl) = true := by simp
            have q2 : decide (fr ≤ xa) = true := by have := HFR.out; simpa using this
            go_wp2_with fail
            refine (cut_any _ Wb.heap.size sb rs S.out (Nat.le_trans HBP.out K.out.2.1) xa xl).mono ?_
            rintro e wx28 ⟨h1, _, h3, hk⟩
            obtain ⟨rs1, g1, g2, _⟩ := h3 HC.out
            obtain ⟨hc, hbk⟩ := cut_add (set_gd g1) HC.out g2
            rw [HC.out] at h1
            subst h1
            have HC2 := Lib.hid hc
            have HBK := Lib.hid hbk
            have S1 := Lib.hid g1
            have K1 := Lib.hid (K.out.t hk.x)
            have XB1 := Lib.hid (hk.2.2 _ _ _ (by decide) XB.out)
            clear S K g1 g2 hc hbk h3 hk y0 y1 XB
            obtain ⟨y0, y1⟩ := XB1.out.c2
            go_wp2_with fail
            refine (add_any _ Wb.heap.size sb rs1 S1.out (Nat.le_trans HBP.out K1.out.2.1) xa xl).mono ?_
            rintro e wx29 ⟨h1, _, h3, hk⟩
            obtain ⟨rs2, g1, g2, _⟩ := h3 HC2.out
            have hrs := set_is g1 HAP.out (HBK.out rs2 g2)
            rw [hrs] at g1
            rw [HC2.out] at h1
            subst h1
            have S := Lib.hid g1
            have K := Lib.hid (K1.out.t hk.x)
            clear S1 K1 g1 g2 h3 hk HC HC2 HBK hrs y0 y1 XB1
            go_wp2_with fail
            refine (list_any _ Wb.heap.size sb rs S.out (by have := HLN.out; omega)).mono ?_
            rintro e wx30 ⟨vx30, rfl, ho, hb⟩
            obtain ⟨Ax30, cx30, rfl, _⟩ := own_form ho
            have Sx := Lib.hid (S.out.nx hb)
            have Kx := Lib.hid (K.out.t (KpR.of_below hb (Nat.le_trans HBP.out K.out.2.1)).x)
            have Rx := Lib.hid (Reads.of_own ho)
            have Ox := Lib.hid (own_kp OW.out fun b cs h => Kx.out.2.2 _ _ _ (by decide) (by decide) h)
            clear ho hb S K
            go_wp2_with fail
            refine (sameR_any _ Ax30 A5 rs.length cx30 rs.length c5 rs rs Rx.out (Reads.of_own Ox.out) (by have := HLN.out; omega) (by have := HLN.out; omega)).mono ?_
            rintro e wx31 ⟨rfl, hb⟩
            rw [show decide (rs = rs) = true by simp]
            have S := Lib.hid (Sx.out.nx hb)
            have K := Lib.hid (Kx.out.t (KpR.of_below hb (Nat.le_trans HBP.out Kx.out.2.1)).x)
            clear hb Sx Kx Rx Ox
            go_wp2_with fail
            refine (alive04 _).mono ?_
            rintro e wl ⟨rfl, hb⟩
            go_wp2_with fail
            go_ret
            exact ⟨rfl, BW.out.trans ((KP.out.trans (K.out.1.trans (hb.mono (Nat.le_trans HBP.out K.out.2.1)))).mono BW.out.size)⟩
          · obtain ⟨rfl, rfl⟩ : xa = 0 ∧ xl = 0 := by simpa using he
            obtain ⟨y0, y1⟩ := XB.out.c2
            clear he
            go_wp2_with fail
            refine (alive04 _).mono ?_
            rintro e wl ⟨rfl, hb⟩
            go_wp2_with fail
            go_ret
            exact ⟨rfl, BW.out.trans ((KP.out.trans (K.out.1.trans (hb.mono (Nat.le_trans HBP.out K.out.2.1)))).mono BW.out.size)⟩
        · have g1 := h2 hE
          have hne : (cutE rs (a, l) == 0) = false := by simpa using hE
          subst h1
          have S1 := Lib.hid g1
          have K1 := Lib.hid (K.out.t hk.x)
          clear S K g1 h2 h3 hk hE
          have S := S1
          have K := K1
          clear S1 K1
          generalize cutE rs (a, l) = erx23 at *
          go_wp2_with fail
          refine (list_any _ Wb.heap.size sb rs S.out (by have := HLN.out; omega)).mono ?_
          rintro e wx32 ⟨vx32, rfl, ho, hb⟩
          obtain ⟨Ax32, cx32, rfl, _⟩ := own_form ho
          have Sx := Lib.hid (S.out.nx hb)
          have Kx := Lib.hid (K.out.t (KpR.of_below hb (Nat.le_trans HBP.out K.out.2.1)).x)
          have Rx := Lib.hid (Reads.of_own ho)
          have Ox := Lib.hid (own_kp OW.out fun b cs h => Kx.out.2.2 _ _ _ (by decide) (by decide) h)
          clear ho hb S K
          go_wp2_with fail
          refine (sameR_any _ Ax32 A5 rs.length cx32 rs.length c5 rs rs Rx.out (Reads.of_own Ox.out) (by have := HLN.out; omega) (by have := HLN.out; omega)).mono ?_
          rintro e wx33 ⟨rfl, hb⟩
          rw [show decide (rs = rs) = true by simp]
          have S := Lib.hid (Sx.out.nx hb)
          have K := Lib.hid (Kx.out.t (KpR.of_below hb (Nat.le_trans HBP.out Kx.out.2.1)).x)
          clear hb Sx Kx Rx Ox
          go_wp2_with fail
          refine (first_any _ Wb.heap.size sb rs S.out n fr F0.out F1.out N0.out N1.out).mono ?_
          rintro e wx34 ⟨⟨xa, xl⟩, b, rfl, hv, hb⟩
          have Sq := Lib.hid (S.out.nx (balloc hb (.cells #[.int .i64 xa, .int .i64 xl] 24)))
          have Kq := Lib.hid (K.out.t ((KpR.of_below (balloc hb (.cells #[.int .i64 xa, .int .i64 xl] 24)) (Nat.le_trans HBP.out K.out.2.1)).x))
          have XB := Lib.hid (Blk.new wx34 24 #[.int .i64 xa, .int .i64 xl])
          clear hb S K
          have S := Sq
          have K := Kq
          clear Sq Kq
          rcases hv with ⟨rfl, hk1, r, hr, hf, he⟩ | ⟨rfl, he, _⟩
          · have hc := first_cut HGD.out hr hf hk1
            rw [← he] at hc
            obtain ⟨rfl, rfl⟩ : xa = max r.1 fr ∧ xl = n := by simpa using he
            have HFR := Lib.hid (show fr ≤ max r.1 fr by omega)
            have HC := Lib.hid hc
            clear hc he hf hr hk1
            generalize max r.1 fr = xa at *
            obtain ⟨y0, y1⟩ := XB.out.c2
            have q1 : (xl == xl) = true := by simp
            have q2 : decide (fr ≤ xa) = true := by have := HFR.out; simpa using this
            go_wp2_with fail
            refine (cut_any _ Wb.heap.size sb rs S.out (Nat.le_trans HBP.out K.out.2.1) xa xl).mono ?_
            rintro e wx35 ⟨h1, _, h3, hk⟩
            obtain ⟨rs1, g1, g2, _⟩ := h3 HC.out
            obtain ⟨hc, hbk⟩ := cut_add (set_gd g1) HC.out g2
            rw [HC.out] at h1
            subst h1
            have HC2 := Lib.hid hc
            have HBK := Lib.hid hbk
            have S1 := Lib.hid g1
            have K1 := Lib.hid (K.out.t hk.x)
            have XB1 := Lib.hid (hk.2.2 _ _ _ (by decide) XB.out)
            clear S K g1 g2 hc hbk h3 hk y0 y1 XB
            obtain ⟨y0, y1⟩ := XB1.out.c2
            go_wp2_with fail
            refine (add_any _ Wb.heap.size sb rs1 S1.out (Nat.le_trans HBP.out K1.out.2.1) xa xl).mono ?_
            rintro e wx36 ⟨h1, _, h3, hk⟩
            obtain ⟨rs2, g1, g2, _⟩ := h3 HC2.out
            have hrs := set_is g1 HAP.out (HBK.out rs2 g2)
            rw [hrs] at g1
            rw [HC2.out] at h1
            subst h1
            have S := Lib.hid g1
            have K := Lib.hid (K1.out.t hk.x)
            clear S1 K1 g1 g2 h3 hk HC HC2 HBK hrs y0 y1 XB1
            go_wp2_with fail
            refine (list_any _ Wb.heap.size sb rs S.out (by have := HLN.out; omega)).mono ?_
            rintro e wx37 ⟨vx37, rfl, ho, hb⟩
            obtain ⟨Ax37, cx37, rfl, _⟩ := own_form ho
            have Sx := Lib.hid (S.out.nx hb)
            have Kx := Lib.hid (K.out.t (KpR.of_below hb (Nat.le_trans HBP.out K.out.2.1)).x)
            have Rx := Lib.hid (Reads.of_own ho)
            have Ox := Lib.hid (own_kp OW.out fun b cs h => Kx.out.2.2 _ _ _ (by decide) (by decide) h)
            clear ho hb S K
            go_wp2_with fail
            refine (sameR_any _ Ax37 A5 rs.length cx37 rs.length c5 rs rs Rx.out (Reads.of_own Ox.out) (by have := HLN.out; omega) (by have := HLN.out; omega)).mono ?_
            rintro e wx38 ⟨rfl, hb⟩
            rw [show decide (rs = rs) = true by simp]
            have S := Lib.hid (Sx.out.nx hb)
            have K := Lib.hid (Kx.out.t (KpR.of_below hb (Nat.le_trans HBP.out Kx.out.2.1)).x)
            clear hb Sx Kx Rx Ox
            go_wp2_with fail
            refine (alive04 _).mono ?_
            rintro e wl ⟨rfl, hb⟩
            go_wp2_with fail
            go_ret
            exact ⟨rfl, BW.out.trans ((KP.out.trans (K.out.1.trans (hb.mono (Nat.le_trans HBP.out K.out.2.1)))).mono BW.out.size)⟩
          · obtain ⟨rfl, rfl⟩ : xa = 0 ∧ xl = 0 := by simpa using he
            obtain ⟨y0, y1⟩ := XB.out.c2
            clear he
            go_wp2_with fail
            refine (alive04 _).mono ?_
            rintro e wl ⟨rfl, hb⟩
            go_wp2_with fail
            go_ret
            exact ⟨rfl, BW.out.trans ((KP.out.trans (K.out.1.trans (hb.mono (Nat.le_trans HBP.out K.out.2.1)))).mono BW.out.size)⟩
end Go.Proofs.Ytpkbmdibiefbdaa
