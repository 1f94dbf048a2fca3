/- The law ShapeMakes: the walk. -/
import Derived.Test.YtehicgndccnopaaDoorShM
import Derived.Test.YtehicgndccnopaaDoorFrameT
namespace Go.Proofs.YtehicgndccnopaaDoor
open Go.RowKit
set_option linter.unusedVariables false
set_option linter.unusedSimpArgs false

set_option maxRecDepth 100000 in
set_option maxHeartbeats 2000000 in
theorem vHead_any (w : World) (vb bs : Nat) (g tg ty ln sz : Int) (x : Ty) (h : IsVw w vb bs g tg ty ln sz x) :
    Calls Tryd.prog 24 #[.pointer (some ⟨vb, 0, none⟩)] w fun e w' => e = .returned (.agg #[.int .u8 tg, .int .i64 ty, .int .i64 ln, .int .i64 sz]) ∧ Below w.heap.size w w' := by
  have b1 := Blk.new w 23 #[.int .u8 0, .int .i64 0, .int .i64 0, .int .i64 0]
  have h1 := h.nx (balloc (Below.refl w.heap.size w) (.cells #[.int .u8 0, .int .i64 0, .int .i64 0, .int .i64 0] 23))
  obtain ⟨c0, c1, c2, c3, c4, c5, c6, c7, c8⟩ := h1.c9
  obtain ⟨d0, d1, d2, d3⟩ := b1.c4
  have g0 := b1.frozen 0
  have g1 := b1.frozen 1
  have g2 := b1.frozen 2
  have g3 := b1.frozen 3
  have hz := b1.lt
  have hB := Lib.hid (balloc (Below.refl w.heap.size w) (.cells #[.int .u8 0, .int .i64 0, .int .i64 0, .int .i64 0] 23))
  clear h h1 b1
  go_enter Tryd.func24, Tryd.ntmps24
  go_wp2_with fail
  refine bodyPost_ret (v := .agg #[.int .u8 tg, .int .i64 ty, .int .i64 ln, .int .i64 sz]) (by simp [results, Tryd.results24, go_sem, d0, d1, d2, d3, hz]) rfl ⟨rfl, ?_⟩
  exact balloc (Below.refl _ w) _

theorem run_fd (id n z : Int) (w : World) : Sem.run Tryd.prog (Instr.field 23 (.agg #[.int .u8 1, .int .i64 id, .int .i64 n, .int .i64 z]) 1) w = .ok (.int .i64 id) w ∧ Sem.run Tryd.prog (Instr.field 23 (.agg #[.int .u8 1, .int .i64 id, .int .i64 n, .int .i64 z]) 2) w = .ok (.int .i64 n) w := by
  constructor
  · first | kernel_rfl | rfl | simp [Instr.field, go_sem, Tryd.underlying23]
  · first | kernel_rfl | rfl | simp [Instr.field, go_sem, Tryd.underlying23]

theorem wds_of {w : World} {a : Option Addr} {len cap : Nat} {zs : List Int} (h : RowIs .u64 w a len cap zs) : WdsOk zs := fun u hu => by
  have := wf_u64 (h.2.2.2 u hu)
  exact ⟨this.1, this.2⟩

set_option maxRecDepth 100000 in
set_option maxHeartbeats 8000000 in
theorem shapeMakes_walk (W : World) (A0 : Option Addr) (n0 cap0 : Nat) (zs : List Int) (h0 : RowIs .u64 W A0 n0 cap0 zs) (A : Option Addr) (len cap : Nat) (ts : List Ty) (h : TysIs W A len cap ts) (g : Int) (g0 : -9223372036854775808 ≤ g) (g1 : g ≤ 9223372036854775807) (id : Int) (id0 : -9223372036854775808 ≤ id) (id1 : id ≤ 9223372036854775807) (n : Int) (i0 : -9223372036854775808 ≤ n) (i1 : n ≤ 9223372036854775807) (hF : Flds W) :
    Calls Tryd.prog 5 #[.slice A0 n0 cap0, .slice A len cap, .int .i64 g, .int .i64 id, .int .i64 n] W fun e w' => e = .returned (.bool true) ∧ Below W.heap.size W w' := by
  have HH := Lib.hid h
  have HZ := Lib.hid h0
  have hlen : len ≤ 9223372036854775807 := Nat.le_trans h.le h.mx
  have hlen0 : n0 ≤ 9223372036854775807 := Nat.le_trans h0.2.1 h0.2.2.1
  have HF := Lib.hid hF
  have WD := Lib.hid (wds_of h0)
  have ZL := Lib.hid h0.len_eq
  have ID0 := Lib.hid id0
  have ID1 := Lib.hid id1
  have G0 := Lib.hid g0
  have G1 := Lib.hid g1
  clear h h0 id0 id1 i0 i1 g0 g1 hF
  by_cases hl0 : 300 < n0
  · go_enter Tryd.func5, Tryd.ntmps5
    go_wp2_with fail
    refine (alive08 _ HF.out).mono ?_
    rintro e w1 ⟨rfl, hb⟩
    go_wp2_with fail
    go_ret
    exact ⟨rfl, hb⟩
  by_cases hl : 70 < len
  · go_enter Tryd.func5, Tryd.ntmps5
    go_wp2_with fail
    refine (alive08 _ HF.out).mono ?_
    rintro e w1 ⟨rfl, hb⟩
    go_wp2_with fail
    go_ret
    exact ⟨rfl, hb⟩
  have HNT := Lib.hid (fun X (hX : Below W.heap.size W X) => newT_any X A len cap ts ((HH.out.r.below hX).more hX.size) HH.out.len_ HH.out.ok (by omega))
  by_cases hev : 16 ≤ n0 ∧ n0 % 2 = 0
  · obtain ⟨ev1, ev2⟩ := hev
    go_enter Tryd.func5, Tryd.ntmps5
    go_wp2_with fail
    refine (laid_ok _ A0 n0 cap0 zs HZ.out.1 ev1 (by omega) ev2).mono ?_
    rintro e w1 ⟨bs, br, c, rfl, hI, hs, hr, hb, hc⟩
    have I1 := Lib.hid hI
    have B1 := Lib.hid hb
    have HC := Lib.hid hc
    clear hI hb hc
    go_wp2_with fail
    refine (HNT.out _ B1.out).mono ?_
    rintro e w2 hg
    by_cases hN : newE [] ts = 0
    · obtain ⟨tb, tg, tv, rfl, hT, hb⟩ : ∃ tb g v, e = .returned (.tuple #[.pointer (some ⟨tb, 0, none⟩), .int .i64 0]) ∧ IsTb w2 w1.heap.size tb g v ts ∧ Below w1.heap.size w1 w2 := by
        rcases hg with ⟨h1, _⟩ | ⟨_, tb, g, v, h1, h2, _, h3⟩
        · exact absurd hN h1
        · exact ⟨tb, g, v, h1, h2, h3⟩
      have I2 := Lib.hid (I1.out.nx hb)
      have B2 := Lib.hid (bnext B1.out hb)
      have K2 := Lib.hid hT
      clear hg hT hb I1 B1
      go_wp2_with fail
      refine (make_any _ bs br zs [] c I2.out _ tb tg tv ts K2.out HH.out.ok (HF.out.nx B2.out) (by have := HH.out.len_; omega) (by have := HC.out; omega) g id n G0.out G1.out ID0.out ID1.out).mono ?_
      rintro e w3 ⟨rfl, hI, hT⟩
      have I3 := Lib.hid hI
      have K3 := Lib.hid (K2.out.touchA I2.out hT)
      have B3 := Lib.hid (btouchA B2.out hs hr hT)
      clear hI hT I2 K2 B2
      go_wp2_with fail
      refine (rmake_any _ A0 n0 cap0 zs ((HZ.out.1.below B3.out).more B3.out.size) ev1 (by omega) A len cap ts ((HH.out.r.below B3.out).more B3.out.size) HH.out.len_ HH.out.ok (by omega) g id n G0.out G1.out ID0.out ID1.out).mono ?_
      rintro e w4 ⟨A4, c4, rfl, hr4, hb⟩
      have I4 := Lib.hid (I3.out.nx hb)
      have K4 := Lib.hid (K3.out.nx hb)
      have B4 := Lib.hid (bnext B3.out hb)
      have R4 := Lib.hid hr4
      clear hr4 hb I3 K3 B3
      have r1 : (mkE ts zs g id n != mkE ts zs g id n) = false := by simp
      go_wp2_with fail
      refine (words08 _ bs br _ [] _ I4.out).mono ?_
      rintro e w5 ⟨A5, c5, rfl, ho, hb⟩
      have I5 := Lib.hid (I4.out.nx hb)
      have K5 := Lib.hid (K4.out.nx hb)
      have B5 := Lib.hid (bnext B4.out hb)
      have R5 := Lib.hid ((R4.out.below hb).more hb.size)
      have O5 := Lib.hid (Reads.of_own ho)
      clear ho hb I4 K4 B4 R4
      go_wp2_with fail
      refine (sameW_any _ A5 A4 _ c5 _ c4 (mkW ts zs g id n) (mkW ts zs g id n) O5.out R5.out (by rw [mkW_len]; have := ZL.out; omega) (by have := ZL.out; omega)).mono ?_
      rintro e w6 ⟨rfl, hb⟩
      rw [show decide (mkW ts zs g id n = mkW ts zs g id n) = true by simp]
      have I6 := Lib.hid (I5.out.nx hb)
      have K6 := Lib.hid (K5.out.nx hb)
      have B6 := Lib.hid (bnext B5.out hb)
      clear hb I5 K5 B5 R5 O5
      go_wp2_with fail
      refine (make_nil _ _ g id n).mono ?_
      rintro e w' ⟨rfl, rfl⟩
      by_cases hE : mkE ts zs g id n = 0
      · have MF := Lib.hid (mk_facts (ts := ts) (ws := zs) (g := g) (id := id) (n := n) (by have := HH.out.len_; omega) WD.out (by have := ZL.out; omega) hE)
        have I6' : Hid (IsAr w6 bs br (mkW ts zs g id n) [] (mkC ts zs g id n c)) := I6
        rw [hE]
        clear I6 hE r1
        go_wp2_with fail
        refine (shOf_any _ bs br _ [] _ I6'.out _ tb tg tv ts K6.out HH.out.ok (HF.out.nx B6.out) MF.out.ok g G0.out G1.out).mono ?_
        rintro e w7 ⟨hg, hb⟩
        obtain ⟨vb, rfl, hV⟩ : ∃ vb, e = .returned (.tuple #[.pointer (some ⟨vb, 0, none⟩), .int .i64 0]) ∧ IsVw w7 vb bs g 1 id n (szG ts id n) (getT ts id) := by
          rcases hg with ⟨h, _⟩ | ⟨_, vb, h1, h2, h3⟩
          · exact absurd MF.out.o h
          · rw [MF.out.t, MF.out.y, MF.out.l, MF.out.s] at h2
            exact ⟨vb, h1, h2⟩
        have I7 := Lib.hid (I6'.out.nx hb)
        have V7 := Lib.hid hV
        have B7 := Lib.hid (bnext B6.out hb)
        clear hg hb hV I6' K6 B6
        have r2 : (id == id) = true := by simp
        have hf1 : ∀ w, Sem.run Tryd.prog (Instr.field 23 (.agg #[.int .u8 1, .int .i64 id, .int .i64 n, .int .i64 (szG ts id n)]) 1) w = .ok (.int .i64 id) w := fun w => (run_fd id n _ w).1
        have hf2 : ∀ w, Sem.run Tryd.prog (Instr.field 23 (.agg #[.int .u8 1, .int .i64 id, .int .i64 n, .int .i64 (szG ts id n)]) 2) w = .ok (.int .i64 n) w := fun w => (run_fd id n _ w).2
        have r3 : (n == n) = true := by simp
        go_wp2_with fail
        refine (vHead_any _ vb bs g 1 id n _ _ V7.out).mono ?_
        rintro e w8 ⟨rfl, hb⟩
        have I8 := Lib.hid (I7.out.nx hb)
        have V8 := Lib.hid (V7.out.nx hb)
        have B8 := Lib.hid (bnext B7.out hb)
        clear hb I7 V7 B7
        go_wp2_with fail
        refine (vHead_any _ vb bs g 1 id n _ _ V8.out).mono ?_
        rintro e w9 ⟨rfl, hb⟩
        have I9 := Lib.hid (I8.out.nx hb)
        have V9 := Lib.hid (V8.out.nx hb)
        have B9 := Lib.hid (bnext B8.out hb)
        clear hb I8 V8 B8
        go_wp2_with fail
        refine (targets_any _ vb bs br g 1 id n _ (getT ts id) _ [] _ V9.out (getT_ok HH.out.ok id) I9.out MF.out.g0 MF.out.g1 MF.out.n1 MF.out.fit).mono ?_
        rintro e wa ⟨v, rfl, ho, hb⟩
        rw [MF.out.tg] at ho
        obtain ⟨A10, c10, rfl, _⟩ := own_form ho
        have Ba := Lib.hid (bnext B9.out hb)
        clear ho hb I9 V9 B9
        go_wp2_with fail
        refine (alive08 _ (HF.out.nx Ba.out)).mono ?_
        rintro e wl ⟨rfl, hb⟩
        go_wp2_with fail
        go_ret
        exact ⟨rfl, bnext Ba.out hb⟩
      · have hne : (mkE ts zs g id n != 0) = true := by simpa using hE
        clear I6 hE
        generalize mkE ts zs g id n = q at *
        go_wp2_with fail
        refine (alive08 _ (HF.out.nx B6.out)).mono ?_
        rintro e wl ⟨rfl, hb⟩
        go_wp2_with fail
        go_ret
        exact ⟨rfl, bnext B6.out hb⟩
    · obtain ⟨rfl, hb⟩ : e = .returned (.tuple #[.pointer none, .int .i64 (newE [] ts)]) ∧ Below w1.heap.size w1 w2 := by
        rcases hg with ⟨_, h1, h2⟩ | ⟨h1, _⟩
        · exact ⟨h1, h2⟩
        · exact absurd h1 hN
      have hne : (newE [] ts != 0) = true := by simpa using hN
      have B2 := Lib.hid (bnext B1.out hb)
      clear hg hb hN I1 B1
      generalize newE [] ts = q at *
      go_wp2_with fail
      refine (alive08 _ (HF.out.nx B2.out)).mono ?_
      rintro e wl ⟨rfl, hb⟩
      go_wp2_with fail
      go_ret
      exact ⟨rfl, bnext B2.out hb⟩
  · go_enter Tryd.func5, Tryd.ntmps5
    go_wp2_with fail
    refine (laid_no _ A0 n0 cap0 (by omega) (by omega)).mono ?_
    rintro e w1 ⟨rfl, rfl⟩
    go_wp2_with fail
    refine (HNT.out _ (Below.refl _ _)).mono ?_
    rintro e w2 hg
    obtain ⟨p, q, rfl, hb⟩ : ∃ p q, e = .returned (.tuple #[.pointer p, .int .i64 q]) ∧ Below W.heap.size W w2 := by
      rcases hg with ⟨_, h1, h2⟩ | ⟨_, tb, g, v, h1, _, _, h2⟩
      · exact ⟨_, _, h1, h2⟩
      · exact ⟨_, _, h1, h2⟩
    have B2 := Lib.hid hb
    clear hg hb
    go_wp2_with fail
    refine (alive08 _ (HF.out.nx B2.out)).mono ?_
    rintro e wl ⟨rfl, hb⟩
    go_wp2_with fail
    go_ret
    exact ⟨rfl, bnext B2.out hb⟩
end Go.Proofs.YtehicgndccnopaaDoor
