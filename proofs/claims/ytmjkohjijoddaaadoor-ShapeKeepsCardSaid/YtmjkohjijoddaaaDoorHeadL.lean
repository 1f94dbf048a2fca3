/- The laws HeadTells and HeadBack: the walks. -/
import Derived.Test.YtmjkohjijoddaaaDoorHeadR
namespace Go.Proofs.YtmjkohjijoddaaaDoor
open Go.RowKit
set_option linter.unusedVariables false
set_option linter.unusedSimpArgs false

theorem decI (x : Int) (h0 : 0 ≤ x) (hx : x < 18446744073709551616) (w : World) (hF : Flds w) :
    Calls Tryd.prog 12 #[.int .u64 x] w fun e w' => e = .returned (.tuple #[.agg #[.int .u8 (dT x), .int .i64 (dY x), .int .i64 (dL x), .int .i64 (dS x)], .int .i64 (decE x)]) ∧ Below w.heap.size w w' := by
  obtain ⟨n, rfl⟩ := Int.eq_ofNat_of_zero_le h0
  exact headDecode_any n (by omega) w hF
theorem refDecI (x : Int) (h0 : 0 ≤ x) (hx : x < 18446744073709551616) (w : World) :
    Calls Tryd.prog 13 #[.int .u64 x] w fun e w' => e = .returned (.tuple #[.agg #[.int .u8 (dT x), .int .i64 (dY x), .int .i64 (dL x), .int .i64 (dS x)], .int .i64 (decE x)]) ∧ Below w.heap.size w w' := by
  obtain ⟨n, rfl⟩ := Int.eq_ofNat_of_zero_le h0
  exact refDecode_any n (by omega) w

theorem Flds.nx {w w' : World} (h : Flds w) (hb : Below w.heap.size w w') : Flds w' := h.below hb h.pos
theorem Flds.al {w : World} (h : Flds w) (o : Obj) : Flds (w.alloc o) := h.nx ((Below.refl _ _).alloc (Nat.le_refl _) o)

set_option maxHeartbeats 1000000 in
theorem alive07 (w : World) (hF : Flds w) : Calls Tryd.prog 15 #[] w fun e w' => e = .returned (.bool true) ∧ Below w.heap.size w w' := by
  have HF := Lib.hid hF
  clear hF
  go_enter Tryd.func15, Tryd.ntmps15
  go_wp2_with fail
  refine (headEncode_any 3 0 0 1 _ HF.out).mono ?_
  rintro e w1 ⟨rfl, hb1⟩
  rw [show encW 3 0 0 1 = 1099511627779 from by decide, show chkH 3 0 0 1 = 0 from by decide]
  have F1 := Lib.hid (HF.out.nx hb1)
  go_wp2_with fail
  refine (headEncode_any 1 2 3 2 _ F1.out).mono ?_
  rintro e w2 ⟨rfl, hb2⟩
  rw [show encW 1 2 3 2 = 2199023452169 from by decide, show chkH 1 2 3 2 = 0 from by decide]
  have B2 := bnext hb1 hb2
  have F2 := Lib.hid (F1.out.nx hb2)
  clear hb1 hb2
  go_wp2_with fail
  refine (decI 0 (by omega) (by omega) _ F2.out).mono ?_
  rintro e w3 ⟨rfl, hb3⟩
  rw [show dT 0 = 0 from by decide, show dY 0 = 0 from by decide, show dL 0 = 0 from by decide, show dS 0 = 0 from by decide, show decE 0 = 7 from by decide]
  have B3 := bnext B2 hb3
  have F3 := Lib.hid (F2.out.nx hb3)
  clear B2 hb3
  go_wp2_with fail
  refine (headEncode_any 3 1 0 1 _ (F3.out.al _)).mono ?_
  rintro e w4 ⟨rfl, hb4⟩
  rw [show encW 3 1 0 1 = 0 from by decide, show chkH 3 1 0 1 = 2 from by decide]
  have B4 := bnext (balloc B3 _) hb4
  clear B3 hb4
  go_wp2_with fail
  go_ret
  exact ⟨rfl, B4⟩

set_option maxHeartbeats 1000000 in
theorem headTells_walk (tg ty ln sz x : Int) (h0 : 0 ≤ x) (hx : x < 18446744073709551616) (w : World) (hF : Flds w) :
    Calls Tryd.prog 3 #[.agg #[.int .u8 tg, .int .i64 ty, .int .i64 ln, .int .i64 sz], .int .u64 x] w fun e w' => e = .returned (.bool true) ∧ Below w.heap.size w w' := by
  have HF := Lib.hid hF
  clear hF
  go_enter Tryd.func3, Tryd.ntmps3
  go_wp2_with fail
  refine (headEncode_any tg ty ln sz _ (HF.out.al _)).mono ?_
  rintro e w1 ⟨rfl, hb1⟩
  have F1 := Lib.hid ((HF.out.al _).nx hb1)
  have b1 := (Blk.new w 23 #[.int .u8 tg, .int .i64 ty, .int .i64 ln, .int .i64 sz]).nx hb1
  have B1 := bnext (balloc (Below.refl _ w) _) hb1
  clear hb1
  obtain ⟨c0, c1, c2, c3⟩ := b1.c4
  go_wp2_with fail
  refine (refEncode_any tg ty ln sz _).mono ?_
  rintro e w2 ⟨rfl, hb2⟩
  have F2 := Lib.hid (F1.out.nx hb2)
  have b2 := b1.nx hb2
  have B2 := bnext B1 hb2
  clear hb2 c0 c1 c2 c3 b1 B1
  obtain ⟨c0, c1, c2, c3⟩ := b2.c4
  go_wp2_with fail
  refine (decI x h0 hx _ F2.out).mono ?_
  rintro e w3 ⟨rfl, hb3⟩
  have F3 := Lib.hid (F2.out.nx hb3)
  have b3 := b2.nx hb3
  have B3 := bnext B2 hb3
  clear hb3 c0 c1 c2 c3 b2 B2
  obtain ⟨c0, c1, c2, c3⟩ := b3.c4
  go_wp2_with fail
  refine (refDecI x h0 hx _).mono ?_
  rintro e w4 ⟨rfl, hb4⟩
  have F4 := Lib.hid ((F3.out.al _).nx hb4)
  have b4 := (b3.alloc _).nx hb4
  have d4 := (Blk.new w3 23 #[.int .u8 (dT x), .int .i64 (dY x), .int .i64 (dL x), .int .i64 (dS x)]).nx hb4
  have B4 := bnext (balloc B3 _) hb4
  have B5 := balloc B4 (.cells #[.int .u8 (dT x), .int .i64 (dY x), .int .i64 (dL x), .int .i64 (dS x)] 23)
  have b5 := b4.alloc (.cells #[.int .u8 (dT x), .int .i64 (dY x), .int .i64 (dL x), .int .i64 (dS x)] 23)
  have d5 := d4.alloc (.cells #[.int .u8 (dT x), .int .i64 (dY x), .int .i64 (dL x), .int .i64 (dS x)] 23)
  have e5 := Blk.new w4 23 #[.int .u8 (dT x), .int .i64 (dY x), .int .i64 (dL x), .int .i64 (dS x)]
  have F5 := Lib.hid (F4.out.al (.cells #[.int .u8 (dT x), .int .i64 (dY x), .int .i64 (dL x), .int .i64 (dS x)] 23))
  clear hb4 c0 c1 c2 c3 b3 B3 b4 d4 B4
  obtain ⟨c0, c1, c2, c3⟩ := b5.c4
  generalize encW tg ty ln sz = a
  have hc : (chkH tg ty ln sz == chkH tg ty ln sz) = true := by simp
  have ha : (a == a) = true := by simp
  go_wp2_with fail
  refine (headCheck_any tg ty ln sz _ F5.out).mono ?_
  rintro e w6 ⟨rfl, hb6⟩
  have B6 := bnext B5 hb6
  have d6 := d5.nx hb6
  have e6 := e5.nx hb6
  have F6 := Lib.hid (F5.out.nx hb6)
  clear hb6 c0 c1 c2 c3 B5 b5 d5 e5
  obtain ⟨c0, c1, c2, c3⟩ := d6.c4
  obtain ⟨k0, k1, k2, k3⟩ := e6.c4
  clear d6 e6
  go_wp2_with fail
  refine (alive07 _ F6.out).mono ?_
  rintro e w7 ⟨rfl, hb7⟩
  have B7 := bnext B6 hb7
  go_wp2_with fail
  go_ret
  exact ⟨rfl, B7⟩
end Go.Proofs.YtmjkohjijoddaaaDoor
