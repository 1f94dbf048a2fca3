/- The law HeadFits: the walk. -/
import Derived.Test.YtehicgndccnopaaDoorHeadT
import Derived.Laws.BitsAllLaws
namespace Go.Proofs.YtehicgndccnopaaDoor
open Go.RowKit
set_option linter.unusedVariables false
set_option linter.unusedSimpArgs false

theorem and255 (x : Int) : 0 ≤ bits .and .i64 x 255 ∧ bits .and .i64 x 255 ≤ 255 := by
  have h : bits .and .i64 x 255 = IntKind.i64.wrap ((BitVec.ofInt 64 x &&& BitVec.ofInt 64 255).toNat : Int) := rfl
  have h2 : (BitVec.ofInt 64 x &&& BitVec.ofInt 64 255).toNat ≤ 255 := by
    rw [BitVec.toNat_and]
    exact Nat.and_le_right
  rw [h, IntKind.wrap_i64]
  omega

theorem szE_facts {ts : List Ty} {id n : Int} (h : szE ts id n = 0) : inT ts id = true ∧ 1 ≤ id ∧ id ≤ ts.length ∧ 0 ≤ n ∧ n ≤ 4096 ∧ 1 ≤ szG ts id n ∧ szG ts id n ≤ 32769 := by
  unfold szE at h
  cases hi : inT ts id
  · rw [hi] at h; cases h
  · rw [hi, if_pos rfl] at h
    obtain ⟨_, ⟨n0, n1⟩, _⟩ := ofE_facts h
    obtain ⟨s0, s1⟩ := slotsV_bd h
    have hi' := hi
    simp only [inT, Bool.and_eq_true, decide_eq_true_eq] at hi'
    simp only [szG, hi, if_true, gS, h]
    refine ⟨trivial, hi'.1, hi'.2, n0, n1, by omega, by omega⟩
theorem szE_out {ts : List Ty} {id n : Int} (h : (ts.length : Int) < id) : szE ts id n = 3 := by
  have : inT ts id = false := by simp [inT]; omega
  simp [szE, this]
theorem okH_obj {ty ln sz : Int} (a : 1 ≤ ty) (b : ty ≤ 4095) (c : 0 ≤ ln) (d : ln ≤ 16777215) (e : 1 ≤ sz) (f : sz ≤ 16777215) : okH 1 ty ln sz = true := by
  simp [okH, a, b, c, d, e, f]
theorem okH_gap {sz : Int} (e : 1 ≤ sz) (f : sz ≤ 16777215) : okH 2 0 0 sz = true := by
  simp [okH, e, f]

set_option maxRecDepth 100000 in
set_option maxHeartbeats 8000000 in
theorem headFits_walk (W : World) (A : Option Addr) (len cap : Nat) (ts : List Ty) (h : TysIs W A len cap ts) (id : Int) (id0 : -9223372036854775808 ≤ id) (id1 : id ≤ 9223372036854775807) (n : Int) (n0 : -9223372036854775808 ≤ n) (n1 : n ≤ 9223372036854775807)
    (by_ : Int) (y0 : -9223372036854775808 ≤ by_) (y1 : by_ ≤ 9223372036854775807) (hF : Flds W) :
    Calls Tryd.prog 7 #[.slice A len cap, .int .i64 id, .int .i64 n, .int .i64 by_] W fun e w' => e = .returned (.bool true) ∧ Below W.heap.size W w' := by
  have HH := Lib.hid h
  have hlen : len ≤ 9223372036854775807 := Nat.le_trans h.le h.mx
  have HF := Lib.hid hF
  have ID0 := Lib.hid id0
  have ID1 := Lib.hid id1
  clear h id0 id1 n0 n1 y0 y1 hF
  by_cases hl : 100 < len
  · go_enter Tryd.func7, Tryd.ntmps7
    go_wp2_with fail
    refine (alive07 _ HF.out).mono ?_
    rintro e w1 ⟨rfl, hb⟩
    go_wp2_with fail
    go_ret
    exact ⟨rfl, hb⟩
  by_cases hN : newE [] ts = 0
  · have HN := Lib.hid hN
    have hn64 : len ≤ 64 := by rw [← HH.out.len_]; have := newE_len0 hN (by simp); simpa using this
    clear hN
    go_enter Tryd.func7, Tryd.ntmps7
    go_wp2_with fail
    refine (newT_ok _ A len cap ts HH.out.r HH.out.len_ HH.out.ok (by omega) HN.out).mono ?_
    rintro e w1 ⟨tb, g, v, rfl, hI, hg, hb⟩
    have I1 := Lib.hid hI
    have C1 := Lib.hid hb
    have HF1 := Lib.hid (HF.out.nx hb)
    clear hI hg hb
    go_wp2_with fail
    refine (headOf_any _ _ tb g v ts I1.out HH.out.ok id n ID0.out ID1.out).mono ?_
    rintro e w2 ⟨rfl, hb⟩
    by_cases hE : szE ts id n = 0
    · obtain ⟨_, a1, a2, a3, a4, a5, a6⟩ := szE_facts hE
      rw [HH.out.len_] at a2
      have hFit := Lib.hid (fun sz => show fitV (szE ts id n) (szG ts id n) 1 id n sz = if okH 1 id n sz then (if szG ts id n = sz then 0 else 8) else 2 by simp [fitV, hE])
      have hz1 : hT (szE ts id n) = 1 := by simp [hT, hE]
      have hz2 : ∀ x, hY (szE ts id n) x = x := fun x => by simp [hY, hE]
      rw [hz1, hz2, hz2, hz2, hE]
      clear hz1 hz2
      have HE := Lib.hid hE
      clear hE
      generalize hG : szG ts id n = G at *
      have HG := Lib.hid hG
      clear hG
      have I2 := Lib.hid ((I1.out.nx hb).nx ((Below.refl _ w2).alloc (Nat.le_refl _) (.cells #[.int .u8 1, .int .i64 id, .int .i64 n, .int .i64 G] 23)))
      have C2 := Lib.hid (balloc (bnext C1.out hb) (.cells #[.int .u8 1, .int .i64 id, .int .i64 n, .int .i64 G] 23))
      have HF2 := Lib.hid ((HF1.out.nx hb).al (.cells #[.int .u8 1, .int .i64 id, .int .i64 n, .int .i64 G] 23))
      have X2 := Lib.hid (Blk.new w2 23 #[.int .u8 1, .int .i64 id, .int .i64 n, .int .i64 G])
      have o1 := Lib.hid (okH_obj a1 (by omega : id ≤ 4095) a3 (by omega) a5 (by omega))
      clear hb I1 C1 HF1
      go_wp2_with fail
      refine (headCheck_any 1 id n G _ HF2.out).mono ?_
      rintro e w3 ⟨rfl, hb⟩
      rw [chkH_yes o1.out]
      have I3 := Lib.hid (I2.out.nx hb)
      have C3 := Lib.hid (bnext C2.out hb)
      have HF3 := Lib.hid (HF2.out.nx hb)
      have X3 := Lib.hid (X2.out.nx hb)
      obtain ⟨c0, c1, c2, c3⟩ := X3.out.c4
      clear hb I2 C2 HF2 X2
      go_wp2_with fail
      refine (headFits_any _ _ tb g v ts I3.out HH.out.ok HF3.out 1 id n G ID0.out ID1.out).mono ?_
      rintro e w4 ⟨rfl, hb⟩
      rw [HG.out, HE.out, show fitV 0 G 1 id n G = 0 by simp [fitV, o1.out]]
      have I4 := Lib.hid (I3.out.nx hb)
      have C4 := Lib.hid (bnext C3.out hb)
      have HF4 := Lib.hid (HF3.out.nx hb)
      have X4 := Lib.hid (X3.out.nx hb)
      obtain ⟨c0, c1, c2, c3⟩ := X4.out.c4
      have r1 : (id != id) = false := by simp
      have r2 : (n != n) = false := by simp
      obtain ⟨k0, k1⟩ := and255 by_
      have hlt4 := X4.out.lt
      clear hb I3 C3 HF3 X3
      go_wp2_with fail
      refine (lenT_any _ _ tb g v ts (I4.out.nx (balloc (balloc (Below.refl _ w4) _) _))).mono ?_
      rintro e w5 ⟨rfl, hb⟩
      rw [HH.out.len_]
      generalize bits .and .i64 by_ 255 = K at *
      have D5 := Lib.hid (bnext (balloc (balloc (Below.refl _ w4) _) _) hb)
      have O5 := Lib.hid (((Blk.new w4 23 #[.int .u8 1, .int .i64 id, .int .i64 n, .int .i64 (G + (1 + K))]).alloc (.cells #[.int .u8 1, .int .i64 id, .int .i64 n, .int .i64 G] 23)).nx hb)
      have P5 := Lib.hid ((Blk.new_at (w4.alloc (.cells #[.int .u8 1, .int .i64 id, .int .i64 n, .int .i64 (G + (1 + K))] 23)) (w4.heap.size + 1) 23 #[.int .u8 1, .int .i64 id, .int .i64 n, .int .i64 G] (by simp)).nx hb)
      obtain ⟨c0, c1, c2, c3⟩ := P5.out.c4
      have f1 := P5.out.frozen 1
      have D6 := Lib.hid (D5.out.setCell (p := ⟨w4.heap.size + 1, 1, none⟩) (by simp) (.int .i64 ((len : Int) + (1 + K))))
      have O6 := Lib.hid (O5.out.far (p := ⟨w4.heap.size + 1, 1, none⟩) (by simp) (.int .i64 ((len : Int) + (1 + K))))
      have P6 := Lib.hid (show Blk (w5.setCell ⟨w4.heap.size + 1, 1, none⟩ (.int .i64 ((len : Int) + (1 + K)))) (w4.heap.size + 1) 23 #[.int .u8 1, .int .i64 ((len : Int) + (1 + K)), .int .i64 n, .int .i64 G] from P5.out.set_ 1 (.int .i64 ((len : Int) + (1 + K))))
      clear hb
      go_wp2_with fail
      refine (headGap_any _ 2 (1 + K) (HF4.out.nx D6.out)).mono ?_
      rintro e w7 ⟨rfl, hb⟩
      have hg0 : gapE 2 (1 + K) = 0 := by simp [gapE, okH_gap (sz := 1 + K) (by omega) (by omega)]
      have hg1 : gT 2 (1 + K) = 2 := by simp [gT, hg0]
      have hg2 : gZ 2 (1 + K) = 1 + K := by simp [gZ, hg0]
      rw [hg0, hg1, hg2]
      have D7 := Lib.hid (balloc (bnext D6.out hb) (.cells #[.int .u8 2, .int .i64 0, .int .i64 0, .int .i64 (1 + K)] 23))
      have O7 := Lib.hid ((O6.out.nx hb).alloc (.cells #[.int .u8 2, .int .i64 0, .int .i64 0, .int .i64 (1 + K)] 23))
      have P7 := Lib.hid ((P6.out.nx hb).alloc (.cells #[.int .u8 2, .int .i64 0, .int .i64 0, .int .i64 (1 + K)] 23))
      have Q7 := Lib.hid (Blk.new w7 23 #[.int .u8 2, .int .i64 0, .int .i64 0, .int .i64 (1 + K)])
      obtain ⟨d0, d1, d2, d3⟩ := O7.out.c4
      clear hb hg0 hg1 hg2 c0 c1 c2 c3 f1 O5 P5 D5
      have F1 := Lib.hid (show fitV (szE ts id n) (szG ts id n) 1 id n (G + (1 + K)) = 8 by
        rw [HE.out, HG.out]
        simp [fitV, okH_obj a1 (by omega : id ≤ 4095) a3 (by omega) (by omega : 1 ≤ G + (1 + K)) (by omega)]
        omega)
      have F2 := Lib.hid (show fitV (szE ts ((len : Int) + (1 + K)) n) (szG ts ((len : Int) + (1 + K)) n) 1 ((len : Int) + (1 + K)) n G = 8 by
        rw [szE_out (by rw [HH.out.len_]; omega)]
        simp [fitV, okH_obj (ty := (len : Int) + (1 + K)) (by omega) (by omega) a3 (by omega) a5 (by omega)])
      have F3 := Lib.hid (fun E' G' => show fitV E' G' 2 0 0 (1 + K) = 0 by simp [fitV, okH_gap (sz := 1 + K) (by omega) (by omega)])
      go_wp2_with fail
      refine (headFits_any _ _ tb g v ts (I4.out.nx D7.out) HH.out.ok (HF4.out.nx D7.out) 1 id n (G + (1 + K)) ID0.out ID1.out).mono ?_
      rintro e w8 ⟨rfl, hb⟩
      rw [F1.out]
      have D8 := Lib.hid (bnext D7.out hb)
      have P8 := Lib.hid (P7.out.nx hb)
      have Q8 := Lib.hid (Q7.out.nx hb)
      obtain ⟨d0, d1, d2, d3⟩ := P8.out.c4
      clear hb O7 P7 Q7 O6 P6
      go_wp2_with fail
      refine (headFits_any _ _ tb g v ts (I4.out.nx D8.out) HH.out.ok (HF4.out.nx D8.out) 1 ((len : Int) + (1 + K)) n G (by omega) (by omega)).mono ?_
      rintro e w9 ⟨rfl, hb⟩
      rw [F2.out]
      have D9 := Lib.hid (bnext D8.out hb)
      have Q9 := Lib.hid (Q8.out.nx hb)
      obtain ⟨d0, d1, d2, d3⟩ := Q9.out.c4
      clear hb P8 Q8
      go_wp2_with fail
      refine (headFits_any _ _ tb g v ts (I4.out.nx D9.out) HH.out.ok (HF4.out.nx D9.out) 2 0 0 (1 + K) (by omega) (by omega)).mono ?_
      rintro e w10 ⟨rfl, hb⟩
      rw [F3.out]
      have D10 := Lib.hid (bnext D9.out hb)
      have Q10 := Lib.hid (Q9.out.nx hb)
      obtain ⟨d0, d1, d2, d3⟩ := Q10.out.c4
      clear hb Q9
      go_wp2_with fail
      refine (headFits_nil _ (HF4.out.nx D10.out) 2 0 0 (1 + K)).mono ?_
      rintro e w11 ⟨rfl, hb⟩
      rw [F3.out]
      have D11 := Lib.hid (bnext D10.out hb)
      clear hb Q10
      go_wp2_with fail
      refine (alive07 _ (HF4.out.nx D11.out)).mono ?_
      rintro e w12 ⟨rfl, hb⟩
      have D12 := Lib.hid (bnext D11.out hb)
      go_wp2_with fail
      go_ret
      exact ⟨rfl, bnext C4.out D12.out⟩
    · have hne : (szE ts id n != 0) = true := by simpa using hE
      rw [hT_no hE, hY_no hE, hY_no hE, hY_no hE]
      generalize szE ts id n = E at *
      have HE := Lib.hid hE
      have C2 := Lib.hid (balloc (bnext C1.out hb) (.cells #[.int .u8 0, .int .i64 0, .int .i64 0, .int .i64 0] 23))
      have HF2 := Lib.hid ((HF1.out.nx hb).al (.cells #[.int .u8 0, .int .i64 0, .int .i64 0, .int .i64 0] 23))
      clear hE hb C1 HF1 I1
      go_wp2_with fail
      refine (alive07 _ HF2.out).mono ?_
      rintro e w3 ⟨rfl, hb⟩
      have C3 := Lib.hid (bnext C2.out hb)
      go_wp2_with fail
      go_ret
      exact ⟨rfl, C3.out⟩
  · have hne : (newE [] ts != 0) = true := by simpa using hN
    have HN := Lib.hid hN
    clear hN
    go_enter Tryd.func7, Tryd.ntmps7
    go_wp2_with fail
    refine (newT_no _ A len cap ts HH.out.r HH.out.len_ HH.out.ok (by omega) HN.out).mono ?_
    rintro e w1 ⟨rfl, hb⟩
    have C1 := Lib.hid hb
    have HF1 := Lib.hid (HF.out.nx hb)
    clear hb
    generalize newE [] ts = X at *
    go_wp2_with fail
    refine (alive07 _ HF1.out).mono ?_
    rintro e w2 ⟨rfl, hb⟩
    have C2 := Lib.hid (bnext C1.out hb)
    go_wp2_with fail
    go_ret
    exact ⟨rfl, C2.out⟩
end Go.Proofs.YtehicgndccnopaaDoor
