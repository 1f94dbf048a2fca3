/- Headers of objects and gaps: head.Of, Gap, Fits; the document's. -/
import Derived.Test.YtmjkohjijoddaaaDoorHeadL
import Derived.Test.YtmjkohjijoddaaaDoorRefG
namespace Go.Proofs.YtmjkohjijoddaaaDoor
open Go.RowKit
set_option linter.unusedVariables false
set_option linter.unusedSimpArgs false

/-- The fields of a header that Of gives, by its error. -/
def hT (E : Int) : Int := if E = 0 then 1 else 0
def hY (E x : Int) : Int := if E = 0 then x else 0
def GivesHead (E id n G : Int) (w : World) (e : Ending) (w' : World) : Prop :=
  e = .returned (.tuple #[.agg #[.int .u8 (hT E), .int .i64 (hY E id), .int .i64 (hY E n), .int .i64 (hY E G)], .int .i64 E]) ∧ Below w.heap.size w w'
theorem hT_no {E : Int} (h : E ≠ 0) : hT E = 0 := if_neg h
theorem hY_no {E : Int} (h : E ≠ 0) (x : Int) : hY E x = 0 := if_neg h

/-- Does a header fit, by what Of's size tells? -/
def fitV (E G tg ty ln sz : Int) : Int := if okH tg ty ln sz then (if tg = 1 then (if E = 0 ∧ G = sz then 0 else 8) else 0) else 2

/-- Of a gap. -/
def gapE (tg sz : Int) : Int := if tg = 1 ∨ okH tg 0 0 sz = false then 2 else 0
def gT (tg sz : Int) : Int := if gapE tg sz = 0 then tg else 0
def gZ (tg sz : Int) : Int := if gapE tg sz = 0 then sz else 0

theorem setB4 {w w1 : World} {g : Nat} (h : Below w.heap.size w w1) (hg : w.heap.size ≤ g) (a b c d : Value) : Below w.heap.size w ((((w1.setCell ⟨g, 0, none⟩ a).setCell ⟨g, 1, none⟩ b).setCell ⟨g, 2, none⟩ c).setCell ⟨g, 3, none⟩ d) :=
  (((h.setCell (p := ⟨g, 0, none⟩) hg _).setCell (p := ⟨g, 1, none⟩) hg _).setCell (p := ⟨g, 2, none⟩) hg _).setCell (p := ⟨g, 3, none⟩) hg _

set_option maxRecDepth 100000 in
set_option maxHeartbeats 2000000 in
theorem headOf_gen (w : World) (p : Option Addr) (id n E G : Int) (HC : ∀ W, Below w.heap.size w W → Calls Tryd.prog 58 #[.pointer p, .int .i64 id, .int .i64 n] W fun e w' => e = .returned (.tuple #[.int .i64 G, .int .i64 E]) ∧ Below W.heap.size W w') :
    Calls Tryd.prog 28 #[.pointer p, .int .i64 id, .int .i64 n] w (GivesHead E id n G w) := by
  have H := Lib.hid HC
  clear HC
  by_cases hE : E = 0
  · subst hE
    go_enter Tryd.func28, Tryd.ntmps28
    go_wp2_with fail
    refine (H.out _ (balloc (Below.refl _ w) _)).mono ?_
    rintro e w1 ⟨rfl, hb⟩
    have b1 := (Blk.new w 23 #[.int .u8 0, .int .i64 0, .int .i64 0, .int .i64 0]).nx hb
    have hB := bnext (balloc (Below.refl _ w) _) hb
    have hz := b1.lt
    clear hb
    obtain ⟨c0, c1, c2, c3⟩ := b1.c4
    have g0 := b1.frozen 0
    have g1 := b1.frozen 1
    have g2 := b1.frozen 2
    have g3 := b1.frozen 3
    clear b1
    go_wp2_with fail
    refine bodyPost_ret (v := .tuple #[.agg #[.int .u8 1, .int .i64 id, .int .i64 n, .int .i64 G], .int .i64 0]) (by simp [results, Tryd.results28, go_sem, c0, c1, c2, c3, hz]) rfl ⟨by simp [hT, hY], ?_⟩
    exact setB4 hB (Nat.le_refl _) _ _ _ _
  · have hne : (E != 0) = true := by simpa using hE
    have HE := Lib.hid hE
    clear hE
    go_enter Tryd.func28, Tryd.ntmps28
    go_wp2_with fail
    refine (H.out _ (balloc (Below.refl _ w) _)).mono ?_
    rintro e w1 ⟨rfl, hb⟩
    have b1 := (Blk.new w 23 #[.int .u8 0, .int .i64 0, .int .i64 0, .int .i64 0]).nx hb
    have hB := bnext (balloc (Below.refl _ w) _) hb
    have hz := b1.lt
    clear hb
    obtain ⟨c0, c1, c2, c3⟩ := b1.c4
    have g0 := b1.frozen 0
    have g1 := b1.frozen 1
    have g2 := b1.frozen 2
    have g3 := b1.frozen 3
    clear b1
    go_wp2_with fail
    refine bodyPost_ret (v := .tuple #[.agg #[.int .u8 0, .int .i64 0, .int .i64 0, .int .i64 0], .int .i64 E]) (by simp [results, Tryd.results28, go_sem, c0, c1, c2, c3, hz]) rfl ⟨by rw [hT_no HE.out, hY_no HE.out, hY_no HE.out, hY_no HE.out], ?_⟩
    exact setB4 hB (Nat.le_refl _) _ _ _ _

set_option maxRecDepth 100000 in
set_option maxHeartbeats 2000000 in
theorem refOf_gen (w : World) (A : Option Addr) (m c : Nat) (id n E G : Int) (HC : ∀ W, Below w.heap.size w W → Calls Tryd.prog 60 #[.slice A m c, .int .i64 id, .int .i64 n] W fun e w' => e = .returned (.tuple #[.int .i64 G, .int .i64 E]) ∧ Below W.heap.size W w') :
    Calls Tryd.prog 32 #[.slice A m c, .int .i64 id, .int .i64 n] w (GivesHead E id n G w) := by
  have H := Lib.hid HC
  clear HC
  by_cases hE : E = 0
  · subst hE
    go_enter Tryd.func32, Tryd.ntmps32
    go_wp2_with fail
    refine (H.out _ (balloc (Below.refl _ w) _)).mono ?_
    rintro e w1 ⟨rfl, hb⟩
    have b1 := (Blk.new w 23 #[.int .u8 0, .int .i64 0, .int .i64 0, .int .i64 0]).nx hb
    have hB := bnext (balloc (Below.refl _ w) _) hb
    have hz := b1.lt
    clear hb
    obtain ⟨c0, c1, c2, c3⟩ := b1.c4
    have g0 := b1.frozen 0
    have g1 := b1.frozen 1
    have g2 := b1.frozen 2
    have g3 := b1.frozen 3
    clear b1
    go_wp2_with fail
    refine bodyPost_ret (v := .tuple #[.agg #[.int .u8 1, .int .i64 id, .int .i64 n, .int .i64 G], .int .i64 0]) (by simp [results, Tryd.results32, go_sem, c0, c1, c2, c3, hz]) rfl ⟨by simp [hT, hY], ?_⟩
    exact setB4 hB (Nat.le_refl _) _ _ _ _
  · have hne : (E != 0) = true := by simpa using hE
    have HE := Lib.hid hE
    clear hE
    go_enter Tryd.func32, Tryd.ntmps32
    go_wp2_with fail
    refine (H.out _ (balloc (Below.refl _ w) _)).mono ?_
    rintro e w1 ⟨rfl, hb⟩
    have b1 := (Blk.new w 23 #[.int .u8 0, .int .i64 0, .int .i64 0, .int .i64 0]).nx hb
    have hB := bnext (balloc (Below.refl _ w) _) hb
    have hz := b1.lt
    clear hb
    obtain ⟨c0, c1, c2, c3⟩ := b1.c4
    have g0 := b1.frozen 0
    have g1 := b1.frozen 1
    have g2 := b1.frozen 2
    have g3 := b1.frozen 3
    clear b1
    go_wp2_with fail
    refine bodyPost_ret (v := .tuple #[.agg #[.int .u8 0, .int .i64 0, .int .i64 0, .int .i64 0], .int .i64 E]) (by simp [results, Tryd.results32, go_sem, c0, c1, c2, c3, hz]) rfl ⟨by rw [hT_no HE.out, hY_no HE.out, hY_no HE.out, hY_no HE.out], ?_⟩
    exact setB4 hB (Nat.le_refl _) _ _ _ _

set_option maxRecDepth 100000 in
set_option maxHeartbeats 2000000 in
theorem headGap_any (w : World) (tg sz : Int) (hF : Flds w) : Calls Tryd.prog 26 #[.int .u8 tg, .int .i64 sz] w fun e w' => e = .returned (.tuple #[.agg #[.int .u8 (gT tg sz), .int .i64 0, .int .i64 0, .int .i64 (gZ tg sz)], .int .i64 (gapE tg sz)]) ∧ Below w.heap.size w w' := by
  have HF := Lib.hid hF
  clear hF
  by_cases ht : tg = 1
  · subst ht
    have HV := Lib.hid (show gapE 1 sz = 2 by simp [gapE])
    have HT := Lib.hid (show gT 1 sz = 0 by simp [gT, HV.out])
    have HZ := Lib.hid (show gZ 1 sz = 0 by simp [gZ, HV.out])
    go_enter Tryd.func26, Tryd.ntmps26
    go_wp2_with fail
    refine bodyPost_ret (v := .tuple #[.agg #[.int .u8 0, .int .i64 0, .int .i64 0, .int .i64 0], .int .i64 2]) (by simp [results, Tryd.results26, go_sem]) rfl ⟨by rw [HV.out, HT.out, HZ.out], ?_⟩
    exact balloc (balloc (Below.refl _ w) _) _
  · have hne : (tg == 1) = false := by simpa using ht
    cases ho : okH tg 0 0 sz
    · have HO := Lib.hid ho
      have HV := Lib.hid (show gapE tg sz = 2 by simp [gapE, ho])
      have HT := Lib.hid (show gT tg sz = 0 by simp [gT, HV.out])
      have HZ := Lib.hid (show gZ tg sz = 0 by simp [gZ, HV.out])
      clear ho ht
      go_enter Tryd.func26, Tryd.ntmps26
      go_wp2_with fail
      refine (headCheck_any tg 0 0 sz _ (HF.out.al _ |>.al _)).mono ?_
      rintro e w1 ⟨rfl, hb⟩
      rw [chkH_no HO.out]
      have b1 := ((Blk.new w 23 #[.int .u8 0, .int .i64 0, .int .i64 0, .int .i64 0]).alloc _).nx hb
      have hB := bnext (balloc (balloc (Below.refl _ w) _) _) hb
      have hz := b1.lt
      clear hb
      obtain ⟨c0, c1, c2, c3⟩ := b1.c4
      have g0 := b1.frozen 0
      have g1 := b1.frozen 1
      have g2 := b1.frozen 2
      have g3 := b1.frozen 3
      clear b1
      go_wp2_with fail
      refine bodyPost_ret (v := .tuple #[.agg #[.int .u8 0, .int .i64 0, .int .i64 0, .int .i64 0], .int .i64 2]) (by simp [results, Tryd.results26, go_sem, c0, c1, c2, c3, hz]) rfl ⟨by rw [HV.out, HT.out, HZ.out], ?_⟩
      exact setB4 hB (Nat.le_refl _) _ _ _ _
    · have HO := Lib.hid ho
      have HV := Lib.hid (show gapE tg sz = 0 by simp [gapE, ho, ht])
      have HT := Lib.hid (show gT tg sz = tg by simp [gT, HV.out])
      have HZ := Lib.hid (show gZ tg sz = sz by simp [gZ, HV.out])
      clear ho ht
      go_enter Tryd.func26, Tryd.ntmps26
      go_wp2_with fail
      refine (headCheck_any tg 0 0 sz _ (HF.out.al _ |>.al _)).mono ?_
      rintro e w1 ⟨rfl, hb⟩
      rw [chkH_yes HO.out]
      have b1 := ((Blk.new w 23 #[.int .u8 0, .int .i64 0, .int .i64 0, .int .i64 0]).alloc (.cells #[.int .u8 tg, .int .i64 0, .int .i64 0, .int .i64 sz] 23)).nx hb
      have b2 := (Blk.new_at (w.alloc (.cells #[.int .u8 0, .int .i64 0, .int .i64 0, .int .i64 0] 23)) (w.heap.size + 1) 23 #[.int .u8 tg, .int .i64 0, .int .i64 0, .int .i64 sz] (by simp)).nx hb
      have hB := bnext (balloc (balloc (Below.refl _ w) _) _) hb
      have hz := b1.lt
      clear hb
      obtain ⟨c0, c1, c2, c3⟩ := b1.c4
      obtain ⟨d0, d1, d2, d3⟩ := b2.c4
      have g0 := b1.frozen 0
      have g1 := b1.frozen 1
      have g2 := b1.frozen 2
      have g3 := b1.frozen 3
      clear b1 b2
      go_wp2_with fail
      refine bodyPost_ret (v := .tuple #[.agg #[.int .u8 tg, .int .i64 0, .int .i64 0, .int .i64 sz], .int .i64 0]) (by simp [results, Tryd.results26, go_sem, c0, c1, c2, c3, hz]) rfl ⟨by rw [HV.out, HT.out, HZ.out], ?_⟩
      exact setB4 hB (Nat.le_refl _) _ _ _ _

set_option maxRecDepth 100000 in
set_option maxHeartbeats 2000000 in
theorem refGap_any (w : World) (tg sz : Int) : Calls Tryd.prog 27 #[.int .u8 tg, .int .i64 sz] w fun e w' => e = .returned (.tuple #[.agg #[.int .u8 (gT tg sz), .int .i64 0, .int .i64 0, .int .i64 (gZ tg sz)], .int .i64 (gapE tg sz)]) ∧ Below w.heap.size w w' := by
  by_cases ht : tg = 1
  · subst ht
    have HV := Lib.hid (show gapE 1 sz = 2 by simp [gapE])
    have HT := Lib.hid (show gT 1 sz = 0 by simp [gT, HV.out])
    have HZ := Lib.hid (show gZ 1 sz = 0 by simp [gZ, HV.out])
    go_enter Tryd.func27, Tryd.ntmps27
    go_wp2_with fail
    refine bodyPost_ret (v := .tuple #[.agg #[.int .u8 0, .int .i64 0, .int .i64 0, .int .i64 0], .int .i64 2]) (by simp [results, Tryd.results27, go_sem]) rfl ⟨by rw [HV.out, HT.out, HZ.out], ?_⟩
    exact balloc (balloc (Below.refl _ w) _) _
  · have hne : (tg == 1) = false := by simpa using ht
    cases ho : okH tg 0 0 sz
    · have HO := Lib.hid ho
      have HV := Lib.hid (show gapE tg sz = 2 by simp [gapE, ho])
      have HT := Lib.hid (show gT tg sz = 0 by simp [gT, HV.out])
      have HZ := Lib.hid (show gZ tg sz = 0 by simp [gZ, HV.out])
      clear ho ht
      go_enter Tryd.func27, Tryd.ntmps27
      go_wp2_with fail
      refine (refMay_any tg 0 0 sz _).mono ?_
      rintro e w1 ⟨rfl, hb⟩
      rw [HO.out]
      have b1 := ((Blk.new w 23 #[.int .u8 0, .int .i64 0, .int .i64 0, .int .i64 0]).alloc _).nx hb
      have hB := bnext (balloc (balloc (Below.refl _ w) _) _) hb
      have hz := b1.lt
      clear hb
      obtain ⟨c0, c1, c2, c3⟩ := b1.c4
      have g0 := b1.frozen 0
      have g1 := b1.frozen 1
      have g2 := b1.frozen 2
      have g3 := b1.frozen 3
      clear b1
      go_wp2_with fail
      refine bodyPost_ret (v := .tuple #[.agg #[.int .u8 0, .int .i64 0, .int .i64 0, .int .i64 0], .int .i64 2]) (by simp [results, Tryd.results27, go_sem, c0, c1, c2, c3, hz]) rfl ⟨by rw [HV.out, HT.out, HZ.out], ?_⟩
      exact setB4 hB (Nat.le_refl _) _ _ _ _
    · have HO := Lib.hid ho
      have HV := Lib.hid (show gapE tg sz = 0 by simp [gapE, ho, ht])
      have HT := Lib.hid (show gT tg sz = tg by simp [gT, HV.out])
      have HZ := Lib.hid (show gZ tg sz = sz by simp [gZ, HV.out])
      clear ho ht
      go_enter Tryd.func27, Tryd.ntmps27
      go_wp2_with fail
      refine (refMay_any tg 0 0 sz _).mono ?_
      rintro e w1 ⟨rfl, hb⟩
      rw [HO.out]
      have b1 := ((Blk.new w 23 #[.int .u8 0, .int .i64 0, .int .i64 0, .int .i64 0]).alloc (.cells #[.int .u8 tg, .int .i64 0, .int .i64 0, .int .i64 sz] 23)).nx hb
      have b2 := (Blk.new_at (w.alloc (.cells #[.int .u8 0, .int .i64 0, .int .i64 0, .int .i64 0] 23)) (w.heap.size + 1) 23 #[.int .u8 tg, .int .i64 0, .int .i64 0, .int .i64 sz] (by simp)).nx hb
      have hB := bnext (balloc (balloc (Below.refl _ w) _) _) hb
      have hz := b1.lt
      clear hb
      obtain ⟨c0, c1, c2, c3⟩ := b1.c4
      obtain ⟨d0, d1, d2, d3⟩ := b2.c4
      have g0 := b1.frozen 0
      have g1 := b1.frozen 1
      have g2 := b1.frozen 2
      have g3 := b1.frozen 3
      clear b1 b2
      go_wp2_with fail
      refine bodyPost_ret (v := .tuple #[.agg #[.int .u8 tg, .int .i64 0, .int .i64 0, .int .i64 sz], .int .i64 0]) (by simp [results, Tryd.results27, go_sem, c0, c1, c2, c3, hz]) rfl ⟨by rw [HV.out, HT.out, HZ.out], ?_⟩
      exact setB4 hB (Nat.le_refl _) _ _ _ _
end Go.Proofs.YtmjkohjijoddaaaDoor
