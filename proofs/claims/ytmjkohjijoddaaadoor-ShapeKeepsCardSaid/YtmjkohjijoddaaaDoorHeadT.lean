/- The law HeadOf: the walk. -/
import Derived.Test.YtmjkohjijoddaaaDoorHeadS
import Derived.Deep.RegionHeld3
namespace Go.Proofs.YtmjkohjijoddaaaDoor
open Go.RowKit
set_option linter.unusedVariables false
set_option linter.unusedSimpArgs false

theorem newT_ok (w : World) (A : Option Addr) (n c : Nat) (ts : List Ty) (hr : Reads w w.heap.size 3 A n (ts.flatMap tyC)) (hl : ts.length = n) (hok : ∀ t ∈ ts, OkW t) (hn : n ≤ 1000000) (h : newE [] ts = 0) :
    Calls Tryd.prog 18 #[.slice A n c] w fun e w' => ∃ tb g v, e = .returned (.tuple #[.pointer (some ⟨tb, 0, none⟩), .int .i64 0]) ∧ IsTb w' w.heap.size tb g v ts ∧ w.heap.size ≤ g ∧ Below w.heap.size w w' :=
  (newT_any w A n c ts hr hl hok hn).mono fun _ _ hg => by
    rcases hg with ⟨h1, _⟩ | ⟨_, hg⟩
    · exact absurd h h1
    · exact hg
theorem newT_no (w : World) (A : Option Addr) (n c : Nat) (ts : List Ty) (hr : Reads w w.heap.size 3 A n (ts.flatMap tyC)) (hl : ts.length = n) (hok : ∀ t ∈ ts, OkW t) (hn : n ≤ 1000000) (h : newE [] ts ≠ 0) :
    Calls Tryd.prog 18 #[.slice A n c] w fun e w' => e = .returned (.tuple #[.pointer none, .int .i64 (newE [] ts)]) ∧ Below w.heap.size w w' :=
  (newT_any w A n c ts hr hl hok hn).mono fun _ _ hg => by
    rcases hg with ⟨_, hg⟩ | ⟨h1, _⟩
    · exact hg
    · exact absurd h1 h

theorem newE_len0 : ∀ {ts acc : List Ty}, newE acc ts = 0 → acc.length ≤ 64 → acc.length + ts.length ≤ 64
  | [], acc, _, h => by simpa using h
  | t :: ts, acc, h, ha => by
    rw [newE] at h
    by_cases he : addE acc t = 0
    · rw [if_pos he] at h
      have hl : acc.length < 64 := by
        unfold addE at he
        split at he
        · cases he
        · split at he
          · cases he
          · omega
      have := newE_len0 h (by simp; omega)
      simp at this ⊢
      omega
    · rw [if_neg he] at h
      exact absurd h he

set_option maxRecDepth 100000 in
set_option maxHeartbeats 8000000 in
theorem headOf_walk (W : World) (A : Option Addr) (len cap : Nat) (ts : List Ty) (h : TysIs W A len cap ts) (id : Int) (id0 : -9223372036854775808 ≤ id) (id1 : id ≤ 9223372036854775807) (n : Int) (n0 : -9223372036854775808 ≤ n) (n1 : n ≤ 9223372036854775807)
    (tg ty ln sz : Int) (y0 : -9223372036854775808 ≤ ty) (y1 : ty ≤ 9223372036854775807) (ug : Int) (ug0 : 0 ≤ ug) (ug1 : ug < 256) (us : Int) (us0 : -9223372036854775808 ≤ us) (us1 : us ≤ 9223372036854775807) (hF : Flds W) :
    Calls Tryd.prog 6 #[.slice A len cap, .int .i64 id, .int .i64 n, .agg #[.int .u8 tg, .int .i64 ty, .int .i64 ln, .int .i64 sz], .int .u8 ug, .int .i64 us] W fun e w' => e = .returned (.bool true) ∧ Below W.heap.size W w' := by
  have HH := Lib.hid h
  have hlen : len ≤ 9223372036854775807 := Nat.le_trans h.le h.mx
  have HF := Lib.hid hF
  have ID0 := Lib.hid id0
  have ID1 := Lib.hid id1
  have Y0 := Lib.hid y0
  have Y1 := Lib.hid y1
  clear h id0 id1 n0 n1 y0 y1 hF ug0 ug1 us0 us1
  by_cases hl : 100 < len
  · go_enter Tryd.func6, Tryd.ntmps6
    go_wp2_with fail
    refine (alive07 _ (HF.out.al _)).mono ?_
    rintro e w1 ⟨rfl, hb⟩
    have hB := bnext (balloc (Below.refl _ W) _) hb
    go_wp2_with fail
    go_ret
    exact ⟨rfl, hB⟩
  have b0 := Lib.hid (Blk.new W 23 #[.int .u8 tg, .int .i64 ty, .int .i64 ln, .int .i64 sz])
  go_enter Tryd.func6, Tryd.ntmps6
  go_wp2_with fail
  refine (headGap_any _ ug us (HF.out.al _)).mono ?_
  rintro e w1 ⟨rfl, hb⟩
  have C1 := Lib.hid hb
  have HF1 := Lib.hid ((HF.out.al _).nx hb)
  have x1 := Lib.hid (Blk.new w1 23 #[.int .u8 (gT ug us), .int .i64 0, .int .i64 0, .int .i64 (gZ ug us)])
  clear hb
  go_wp2_with fail
  refine (refGap_any _ ug us).mono ?_
  rintro e w2 ⟨rfl, hb⟩
  have C2 := Lib.hid (balloc (bnext (balloc C1.out _) hb) (.cells #[.int .u8 (gT ug us), .int .i64 0, .int .i64 0, .int .i64 (gZ ug us)] 23))
  have HF2 := Lib.hid (((HF1.out.al _).nx hb).al (.cells #[.int .u8 (gT ug us), .int .i64 0, .int .i64 0, .int .i64 (gZ ug us)] 23))
  obtain ⟨c0, c1, c2, c3⟩ := ((x1.out.nx hb).alloc (.cells #[.int .u8 (gT ug us), .int .i64 0, .int .i64 0, .int .i64 (gZ ug us)] 23)).c4
  clear hb x1 HF1 C1
  generalize gT ug us = a1 at *
  generalize gZ ug us = a2 at *
  generalize gapE ug us = a3 at *
  have r1 : (a1 == a1) = true := by simp
  have r2 : (a2 == a2) = true := by simp
  have r3 : (a3 != a3) = false := by simp
  go_wp2_with fail
  refine (headOf_nil _ id n).mono ?_
  rintro e w3 ⟨rfl, hb⟩
  have C3 := Lib.hid (balloc (bnext C2.out hb) (.cells #[.int .u8 0, .int .i64 0, .int .i64 0, .int .i64 0] 23))
  have HF3 := Lib.hid ((HF2.out.nx hb).al (.cells #[.int .u8 0, .int .i64 0, .int .i64 0, .int .i64 0] 23))
  obtain ⟨d0, d1, d2, d3⟩ := (b0.out.below C3.out b0.out.lt).c4
  rw [hT_no (by decide), hY_no (by decide), hY_no (by decide), hY_no (by decide)]
  clear hb HF2 C2 c0 c1 c2 c3 r1 r2 r3
  go_wp2_with fail
  refine (refFits_any _ none 0 0 [] Reads.none_ rfl (by simp) (by omega) tg ty ln sz Y0.out Y1.out).mono ?_
  rintro e w4 ⟨rfl, hb⟩
  rw [fitV_ne (E' := 1) (G' := 0) (by rw [szE_nil]; decide) (by decide)]
  have C4 := Lib.hid (bnext C3.out hb)
  have HF4 := Lib.hid (HF3.out.nx hb)
  have h4 := b0.out.below C4.out b0.out.lt
  obtain ⟨d0, d1, d2, d3⟩ := h4.c4
  clear hb HF3 C3 h4
  go_wp2_with fail
  refine (headFits_nil _ HF4.out tg ty ln sz).mono ?_
  rintro e w5 ⟨rfl, hb⟩
  have C5 := Lib.hid (bnext C4.out hb)
  have HF5 := Lib.hid (HF4.out.nx hb)
  clear hb HF4 C4 d0 d1 d2 d3
  generalize fitV 1 0 tg ty ln sz = V1
  have r1 : (V1 != V1) = false := by simp
  have B5 := Lib.hid (bnext (balloc (Below.refl _ W) _) C5.out)
  have T5 := Lib.hid ((HH.out.r.below B5.out).more B5.out.size)
  by_cases hN : newE [] ts = 0
  · have HN := Lib.hid hN
    have hn64 : len ≤ 64 := by rw [← HH.out.len_]; have := newE_len0 hN (by simp); simpa using this
    clear hN
    go_wp2_with fail
    refine (newT_ok _ A len cap ts T5.out HH.out.len_ HH.out.ok (by omega) HN.out).mono ?_
    rintro e w6 ⟨tb, g, v, rfl, hI, hg, hb⟩
    have I6 := Lib.hid hI
    have C6 := Lib.hid (bnext C5.out hb)
    have HF6 := Lib.hid (HF5.out.nx hb)
    have T6 := Lib.hid ((T5.out.below hb).more hb.size)
    clear hI hg hb C5 HF5 B5 T5 r1
    go_wp2_with fail
    refine (rnew_any _ A len cap ts T6.out HH.out.len_ HH.out.ok (by omega)).mono ?_
    rintro e w7 ⟨A7, m7, c7, rfl, hr7, hl7, hc7, hb, hf7⟩
    rw [if_pos HN.out] at hr7 hl7
    rw [HN.out]
    have I7 := Lib.hid (I6.out.nx hb)
    have C7 := Lib.hid (bnext C6.out hb)
    have HF7 := Lib.hid (HF6.out.nx hb)
    have R7 := Lib.hid hr7
    have L7 := Lib.hid hl7
    have hm7 : m7 ≤ 64 := by rw [← hl7, HH.out.len_]; exact hn64
    clear hr7 hl7 hf7 hb I6 C6 HF6 T6
    go_wp2_with fail
    refine (headOf_any _ _ tb g v ts I7.out HH.out.ok id n ID0.out ID1.out).mono ?_
    rintro e w8 ⟨rfl, hb⟩
    generalize hE1 : hT (szE ts id n) = e1
    generalize hE2 : hY (szE ts id n) id = e2
    generalize hE3 : hY (szE ts id n) n = e3
    generalize hE4 : hY (szE ts id n) (szG ts id n) = e4
    generalize hE5 : szE ts id n = e5
    have EE := Lib.hid (And.intro hE1 (And.intro hE2 (And.intro hE3 (And.intro hE4 hE5))))
    clear hE1 hE2 hE3 hE4 hE5
    have I8 := Lib.hid ((I7.out.nx hb).nx ((Below.refl _ w8).alloc (Nat.le_refl _) (.cells #[.int .u8 e1, .int .i64 e2, .int .i64 e3, .int .i64 e4] 23)))
    have C8 := Lib.hid (balloc (bnext C7.out hb) (.cells #[.int .u8 e1, .int .i64 e2, .int .i64 e3, .int .i64 e4] 23))
    have HF8 := Lib.hid ((HF7.out.nx hb).al (.cells #[.int .u8 e1, .int .i64 e2, .int .i64 e3, .int .i64 e4] 23))
    have R8 := Lib.hid (((R7.out.below hb).more hb.size).alloc (Nat.le_refl _) (.cells #[.int .u8 e1, .int .i64 e2, .int .i64 e3, .int .i64 e4] 23))
    have X8 := Lib.hid (Blk.new w8 23 #[.int .u8 e1, .int .i64 e2, .int .i64 e3, .int .i64 e4])
    clear hb I7 C7 HF7 R7
    go_wp2_with fail
    refine (refOf_any _ A7 m7 c7 ts (R8.out.more (by simp)) L7.out HH.out.ok (by omega) id n ID0.out ID1.out).mono ?_
    rintro e w9 ⟨rfl, hb⟩
    rw [EE.out.1, EE.out.2.1, EE.out.2.2.1, EE.out.2.2.2.1, EE.out.2.2.2.2]
    have I9 := Lib.hid ((I8.out.nx hb).nx ((Below.refl _ w9).alloc (Nat.le_refl _) (.cells #[.int .u8 e1, .int .i64 e2, .int .i64 e3, .int .i64 e4] 23)))
    have C9 := Lib.hid (balloc (bnext C8.out hb) (.cells #[.int .u8 e1, .int .i64 e2, .int .i64 e3, .int .i64 e4] 23))
    have HF9 := Lib.hid ((HF8.out.nx hb).al (.cells #[.int .u8 e1, .int .i64 e2, .int .i64 e3, .int .i64 e4] 23))
    have R9 := Lib.hid (((((R8.out.more (B' := (w8.alloc (.cells #[.int .u8 e1, .int .i64 e2, .int .i64 e3, .int .i64 e4] 23)).heap.size) (by simp)).below hb).more hb.size).alloc (Nat.le_refl _) (.cells #[.int .u8 e1, .int .i64 e2, .int .i64 e3, .int .i64 e4] 23)))
    have X9 := Lib.hid ((X8.out.nx hb).alloc (.cells #[.int .u8 e1, .int .i64 e2, .int .i64 e3, .int .i64 e4] 23))
    have Y9 := Lib.hid (Blk.new w9 23 #[.int .u8 e1, .int .i64 e2, .int .i64 e3, .int .i64 e4])
    have H9 := Lib.hid (b0.out.below C9.out b0.out.lt)
    clear hb I8 C8 HF8 R8 X8 EE
    go_wp2_with fail
    generalize hW9 : w9.alloc (.cells #[.int .u8 e1, .int .i64 e2, .int .i64 e3, .int .i64 e4] 23) = V9 at *
    have R9' := Lib.hid (show Reads V9 V9.heap.size 3 A7 m7 (ts.flatMap tyC) by
      have := R9.out.more (B' := V9.heap.size) (by rw [← hW9]; simp)
      exact this)
    have hz9 : V9.heap.size = w9.heap.size + 1 := by rw [← hW9]; simp
    have HZ9 := Lib.hid hz9
    clear hW9 R9 hz9
    have FA := Lib.hid (fun X (hX : Below V9.heap.size V9 X) => headFits_any X _ tb g v ts (I9.out.nx hX) HH.out.ok (HF9.out.nx hX) tg ty ln sz Y0.out Y1.out)
    have FB := Lib.hid (fun X (hX : Below V9.heap.size V9 X) => refFits_any X A7 m7 c7 ts ((R9'.out.below hX).more hX.size) L7.out HH.out.ok (by omega) tg ty ln sz Y0.out Y1.out)
    generalize fitV (szE ts ty ln) (szG ts ty ln) tg ty ln sz = q at *
    have BR := Lib.hid (show Below V9.heap.size V9 V9.drew from (Below.refl _ V9).drew)
    obtain ⟨p0, p1, p2, p3⟩ := X9.out.c4
    obtain ⟨q0, q1, q2, q3⟩ := Y9.out.c4
    obtain ⟨d0, d1, d2, d3⟩ := H9.out.c4
    have r1 : (e1 == e1) = true := by simp
    have r2 : (e2 == e2) = true := by simp
    have r3 : (e3 == e3) = true := by simp
    have r4 : (e4 == e4) = true := by simp
    have r5 : (e5 == e5) = true := by simp
    have r6 : (q == q) = true := by simp
    go_region_held3 (fun w' => w'.cell? ⟨w8.heap.size, 0, none⟩ = some (.int .u8 e1) ∧ w'.cell? ⟨w8.heap.size, 1, none⟩ = some (.int .i64 e2) ∧ w'.cell? ⟨w8.heap.size, 2, none⟩ = some (.int .i64 e3) ∧ w'.cell? ⟨w8.heap.size, 3, none⟩ = some (.int .i64 e4) ∧ w'.cell? ⟨w9.heap.size, 0, none⟩ = some (.int .u8 e1) ∧ w'.cell? ⟨w9.heap.size, 1, none⟩ = some (.int .i64 e2) ∧ w'.cell? ⟨w9.heap.size, 2, none⟩ = some (.int .i64 e3) ∧ w'.cell? ⟨w9.heap.size, 3, none⟩ = some (.int .i64 e4) ∧ w'.cell? ⟨W.heap.size, 0, none⟩ = some (.int .u8 tg) ∧ w'.cell? ⟨W.heap.size, 1, none⟩ = some (.int .i64 ty) ∧ w'.cell? ⟨W.heap.size, 2, none⟩ = some (.int .i64 ln) ∧ w'.cell? ⟨W.heap.size, 3, none⟩ = some (.int .i64 sz)) (go_keep)
      (first
        | (go_at_call 30; refine (FA.out _ ?_).mono ?_; (first | exact BB.out | exact BR.out); rintro e wa ⟨rfl, hb⟩; have BA : Hid (Below V9.heap.size V9 wa) := (by first | exact Lib.hid (bnext BB.out hb) | exact Lib.hid (bnext BR.out hb)); obtain ⟨p0, p1, p2, p3⟩ := (X9.out.nx BA.out).c4; obtain ⟨q0, q1, q2, q3⟩ := (Y9.out.nx BA.out).c4; obtain ⟨d0, d1, d2, d3⟩ := (H9.out.nx BA.out).c4)
        | (go_at_call 29; refine (FB.out _ ?_).mono ?_; (first | exact BA.out | exact BR.out); rintro e wb ⟨rfl, hb⟩; have BB : Hid (Below V9.heap.size V9 wb) := (by first | exact Lib.hid (bnext BA.out hb) | exact Lib.hid (bnext BR.out hb)); obtain ⟨p0, p1, p2, p3⟩ := (X9.out.nx BB.out).c4; obtain ⟨q0, q1, q2, q3⟩ := (Y9.out.nx BB.out).c4; obtain ⟨d0, d1, d2, d3⟩ := (H9.out.nx BB.out).c4)
        | (go_at_call 15; refine (alive07 _ ?_).mono ?_; (first | exact HF9.out.nx BB.out | exact HF9.out.nx BA.out); rintro e wl ⟨rfl, hb⟩; have BL : Hid (Below V9.heap.size V9 wl) := (by first | exact Lib.hid (bnext BB.out hb) | exact Lib.hid (bnext BA.out hb)); obtain ⟨p0, p1, p2, p3⟩ := (X9.out.nx BL.out).c4; obtain ⟨q0, q1, q2, q3⟩ := (Y9.out.nx BL.out).c4; obtain ⟨d0, d1, d2, d3⟩ := (H9.out.nx BL.out).c4))
    all_goals
      go_wp2_with fail
      go_ret
      exact ⟨rfl, bnext (bnext (balloc (Below.refl _ W) _) C9.out) BL.out⟩
  · have hne : (newE [] ts != 0) = true := by simpa using hN
    have HN := Lib.hid hN
    clear hN
    go_wp2_with fail
    refine (newT_no _ A len cap ts T5.out HH.out.len_ HH.out.ok (by omega) HN.out).mono ?_
    rintro e w6 ⟨rfl, hb⟩
    have C6 := Lib.hid (bnext C5.out hb)
    have HF6 := Lib.hid (HF5.out.nx hb)
    have T6 := Lib.hid ((T5.out.below hb).more hb.size)
    clear hb C5 HF5 B5 T5 r1
    go_wp2_with fail
    refine (rnew_any _ A len cap ts T6.out HH.out.len_ HH.out.ok (by omega)).mono ?_
    rintro e w7 ⟨A7, m7, c7, rfl, hr7, hl7, hc7, hb, hf7⟩
    have C7 := Lib.hid (bnext C6.out hb)
    have HF7 := Lib.hid (HF6.out.nx hb)
    clear hr7 hl7 hf7 hb
    generalize newE [] ts = X at *
    have r1 : (X != X) = false := by simp
    go_wp2_with fail
    refine (alive07 _ HF7.out).mono ?_
    rintro e w8 ⟨rfl, hb⟩
    have C8 := Lib.hid (bnext C7.out hb)
    go_wp2_with fail
    go_ret
    exact ⟨rfl, bnext (balloc (Below.refl _ W) _) C8.out⟩
end Go.Proofs.YtmjkohjijoddaaaDoor
