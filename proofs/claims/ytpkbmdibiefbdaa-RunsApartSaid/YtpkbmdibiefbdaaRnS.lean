/- Runs: Add, whole; the document's New, May, Add, Cut. -/
import Derived.Test.YtpkbmdibiefbdaaRnN
import Derived.Test.YtpkbmdibiefbdaaRnR
import Derived.StillTailTactics
namespace Go.Proofs.Ytpkbmdibiefbdaa
open Go.RowKit
set_option linter.unusedVariables false
set_option linter.unusedSimpArgs false

theorem add_any (w : World) (B sb : Nat) (rs : List Rn) (h : IsSet w B sb rs) (hBw : B ≤ w.heap.size) (a l : Int) :
    Calls Try.prog 11 #[.pointer (some ⟨sb, 0, none⟩), .agg #[.int .i64 a, .int .i64 l]] w (GivesAdd B sb rs (a, l) w) := by
  cases hm : mayB a l
  · refine (add_arg w sb a l hm).mono ?_
    rintro e w' ⟨rfl, hb⟩
    have hE : addE rs (a, l) = 2 := by simp [addE, hm]
    exact ⟨by rw [hE], fun _ => h.nx hb, fun h0 => (by rw [hE] at h0; cases h0), KpR.of_below hb hBw⟩
  · exact add_ok w B sb rs h hBw a l hm

theorem rmay_any (w : World) (a l : Int) : Calls Try.prog 26 #[.agg #[.int .i64 a, .int .i64 l]] w fun e w' => e = .returned (.bool (mayB a l)) ∧ Below w.heap.size w w' := by
  obtain ⟨c0, c1⟩ := (Blk.new w 24 #[.int .i64 a, .int .i64 l]).c2
  have hc : a < 0 ∨ (0 ≤ a ∧ l < 1) ∨ (0 ≤ a ∧ 1 ≤ l ∧ 65536 < a) ∨ (0 ≤ a ∧ 1 ≤ l ∧ a ≤ 65536) := by omega
  rcases hc with h1 | ⟨h1, h2⟩ | ⟨h1, h2, h3⟩ | ⟨h1, h2, h3⟩
  · have hv : mayB a l = false := by simp [mayB]; omega
    have q1 : decide ((0 : Int) ≤ a) = false := by simp; omega
    rw [hv]
    go_enter Try.func26, Try.ntmps26
    go_wp2_with fail
    go_ret
    exact ⟨by first | rfl | simp, balloc (Below.refl _ w) _⟩
  · have hv : mayB a l = false := by simp [mayB]; omega
    have q1 : decide ((0 : Int) ≤ a) = true := by simp; omega
    have q2 : decide ((1 : Int) ≤ l) = false := by simp; omega
    rw [hv]
    go_enter Try.func26, Try.ntmps26
    go_wp2_with fail
    go_ret
    exact ⟨by first | rfl | simp, balloc (Below.refl _ w) _⟩
  · have hv : mayB a l = false := by simp [mayB]; omega
    have q1 : decide ((0 : Int) ≤ a) = true := by simp; omega
    have q2 : decide ((1 : Int) ≤ l) = true := by simp; omega
    have q3 : decide (a ≤ (65536 : Int)) = false := by simp; omega
    rw [hv]
    go_enter Try.func26, Try.ntmps26
    go_wp2_with fail
    go_ret
    exact ⟨by first | rfl | simp, balloc (Below.refl _ w) _⟩
  · have q1 : decide ((0 : Int) ≤ a) = true := by simp; omega
    have q2 : decide ((1 : Int) ≤ l) = true := by simp; omega
    have q3 : decide (a ≤ (65536 : Int)) = true := by simp; omega
    have e1 : wrap64 (65536 - a) = 65536 - a := by simp [wrap64]; omega
    have e2 : IntKind.i64.wrap (65536 - a) = 65536 - a := by simp [IntKind.wrap, IntKind.signed, IntKind.bits]; omega
    have hv : mayB a l = decide (l ≤ 65536 - a) := by unfold mayB; rw [decide_eq_decide]; omega
    rw [hv]
    have HV := Lib.hid (show True from trivial)
    generalize hb : decide (l ≤ 65536 - a) = b
    go_enter Try.func26, Try.ntmps26
    go_wp2_with fail
    go_ret
    exact ⟨by first | rfl | simp [hb], balloc (Below.refl _ w) _⟩

/-- The document's set in memory. -/
structure IsB4 (w : World) (n rb bb gb : Nat) (cs : List Bool) : Prop where
  r : Blk w rb 54 #[.pointer (some ⟨bb, 0, none⟩)]
  i : IsBi w n bb gb cs
theorem IsB4.nx {w w' : World} {n rb bb gb : Nat} {cs : List Bool} (h : IsB4 w n rb bb gb cs) (hb : Below w.heap.size w w') : IsB4 w' n rb bb gb cs := ⟨h.r.nx hb, h.i.nx hb⟩

theorem rnew4_any (w : World) : Calls Try.prog 9 #[] w fun e w' => ∃ n rb bb gb cs, e = .returned (.pointer (some ⟨rb, 0, none⟩)) ∧ n = 65536 ∧ IsB4 w' n rb bb gb cs ∧ w.heap.size ≤ gb ∧ Below w.heap.size w w' := by
  have key : ∀ n : Nat, n = 65536 → Calls Try.prog 9 #[] w fun e w' => ∃ rb bb gb cs, e = .returned (.pointer (some ⟨rb, 0, none⟩)) ∧ IsB4 w' n rb bb gb cs ∧ w.heap.size ≤ gb ∧ Below w.heap.size w w' := by
    intro n hn
    have h3 := rnew3_any w n (by omega)
    rw [show ((n : Nat) : Int) = 65536 by omega] at h3
    have H3 := Lib.hid h3
    clear h3 hn
    go_enter Try.func9, Try.ntmps9
    go_wp2_with fail
    refine H3.out.mono ?_
    rintro e w1 ⟨bb, gb, rfl, hI, hg, hb⟩
    go_wp2_with fail
    go_ret
    exact ⟨w1.heap.size, bb, gb, _, rfl, ⟨Blk.new w1 _ _, hI.nx (balloc (Below.refl _ w1) _)⟩, hg, balloc hb _⟩
  obtain ⟨n, hn⟩ : ∃ n : Nat, n = 65536 := ⟨_, rfl⟩
  refine (key n hn).mono ?_
  rintro e w' ⟨rb, bb, gb, cs, h1, h2, h3, h4⟩
  exact ⟨n, rb, bb, gb, cs, h1, hn, h2, h3, h4⟩

section
variable (w : World) (B n rb bb gb : Nat) (cs : List Bool) (h : IsB4 w n rb bb gb cs) (hn : n = 65536) (hB : B ≤ gb) (hBw : B ≤ w.heap.size) (a l : Int)
include h hn hB hBw

set_option maxHeartbeats 2000000 in
theorem radd_any : Calls Try.prog 19 #[.pointer (some ⟨rb, 0, none⟩), .agg #[.int .i64 a, .int .i64 l]] w fun e w' => ∃ v, e = .returned (.int .i64 v) ∧ KpL B w w' := by
  have HM := Lib.hid (fun W => rmay_any W a l)
  have b0 := Blk.new w 24 #[.int .i64 a, .int .i64 l]
  have h1 := h.nx (balloc (Below.refl _ w) (.cells #[.int .i64 a, .int .i64 l] 24))
  obtain ⟨c0, c1⟩ := b0.c2
  have HB0 := Lib.hid b0
  have H1 := Lib.hid h1
  clear b0 h1 h
  cases hm : mayB a l
  · rw [hm] at HM
    clear hm
    go_enter Try.func19, Try.ntmps19
    go_wp2_with fail
    refine (HM.out _).mono ?_
    rintro e w1 ⟨rfl, hb⟩
    go_wp2_with fail
    go_ret
    exact ⟨_, rfl, KpL.of_below (bnext (balloc (Below.refl _ w) _) hb) hBw⟩
  · rw [hm] at HM
    have hml := hm
    simp only [mayB, decide_eq_true_eq] at hml
    obtain ⟨i, rfl⟩ := Int.eq_ofNat_of_zero_le hml.1
    obtain ⟨c, rfl⟩ := Int.eq_ofNat_of_zero_le (show 0 ≤ l by omega)
    have HI := Lib.hid (show i ≤ n ∧ c ≤ n - i by omega)
    have HN := Lib.hid (show n ≤ 1000000 by omega)
    clear hml hm hn
    go_enter Try.func19, Try.ntmps19
    go_wp2_with fail
    refine (HM.out _).mono ?_
    rintro e w1 ⟨rfl, hb⟩
    have H2 := Lib.hid (H1.out.nx hb)
    obtain ⟨d0, d1⟩ := (HB0.out.nx hb).c2
    have d2 := H2.out.r.c1
    have HW := Lib.hid (KpL.of_below (bnext (balloc (Below.refl _ w) _) hb) hBw)
    have HS := Lib.hid (Nat.le_trans hBw (bnext (balloc (Below.refl _ w) (.cells #[.int .i64 (i : Int), .int .i64 (c : Int)] 24)) hb).size)
    clear c0 c1 hb
    have CT := Lib.hid (fun k => count_any (w1.drewN k) n bb gb cs (H2.out.i.drewN k) HN.out i c HI.out.1 HI.out.2)
    have LY := Lib.hid (fun k => lay_any (w1.drewN k) n bb gb cs (H2.out.i.drewN k) HN.out i c HI.out.1 HI.out.2 true)
    generalize cntQ cs i c = K at *
    go_wp2_with fail
    go_quiet ((go_at_call 27; exact Calls.quiet_of_same (CT.out _)))
    by_cases hK : (0 : Int) < (K : Int)
    · go_wp2_with fail
      go_ret
      exact ⟨_, rfl, HW.out.t (KpL.drewN _ _ _)⟩
    · have q1 : decide ((0 : Int) < (K : Int)) = false := by simpa using hK
      go_wp2_with fail
      go_region_with (go_at_call 28; refine (LY.out (_ + 1)).mono ?_; rintro e w5 ⟨rfl, hk⟩)
      all_goals
        go_wp2_with fail
        go_ret
        exact ⟨_, rfl, HW.out.t ((KpL.drewN _ _ _).t (hk.less hB))⟩

set_option maxHeartbeats 2000000 in
theorem rcut_any : Calls Try.prog 20 #[.pointer (some ⟨rb, 0, none⟩), .agg #[.int .i64 a, .int .i64 l]] w fun e w' => ∃ v, e = .returned (.int .i64 v) ∧ KpL B w w' := by
  have HM := Lib.hid (fun W => rmay_any W a l)
  have b0 := Blk.new w 24 #[.int .i64 a, .int .i64 l]
  have h1 := h.nx (balloc (Below.refl _ w) (.cells #[.int .i64 a, .int .i64 l] 24))
  obtain ⟨c0, c1⟩ := b0.c2
  have HB0 := Lib.hid b0
  have H1 := Lib.hid h1
  clear b0 h1 h
  cases hm : mayB a l
  · rw [hm] at HM
    clear hm
    go_enter Try.func20, Try.ntmps20
    go_wp2_with fail
    refine (HM.out _).mono ?_
    rintro e w1 ⟨rfl, hb⟩
    go_wp2_with fail
    go_ret
    exact ⟨_, rfl, KpL.of_below (bnext (balloc (Below.refl _ w) _) hb) hBw⟩
  · rw [hm] at HM
    have hml := hm
    simp only [mayB, decide_eq_true_eq] at hml
    obtain ⟨i, rfl⟩ := Int.eq_ofNat_of_zero_le hml.1
    obtain ⟨c, rfl⟩ := Int.eq_ofNat_of_zero_le (show 0 ≤ l by omega)
    have HI := Lib.hid (show i ≤ n ∧ c ≤ n - i by omega)
    have HN := Lib.hid (show n ≤ 1000000 by omega)
    clear hml hm hn
    go_enter Try.func20, Try.ntmps20
    go_wp2_with fail
    refine (HM.out _).mono ?_
    rintro e w1 ⟨rfl, hb⟩
    have H2 := Lib.hid (H1.out.nx hb)
    obtain ⟨d0, d1⟩ := (HB0.out.nx hb).c2
    have d2 := H2.out.r.c1
    have HW := Lib.hid (KpL.of_below (bnext (balloc (Below.refl _ w) _) hb) hBw)
    clear c0 c1 hb
    have CT := Lib.hid (fun k => count_any (w1.drewN k) n bb gb cs (H2.out.i.drewN k) HN.out i c HI.out.1 HI.out.2)
    have LY := Lib.hid (fun k => lay_any (w1.drewN k) n bb gb cs (H2.out.i.drewN k) HN.out i c HI.out.1 HI.out.2 false)
    generalize cntQ cs i c = K at *
    go_wp2_with fail
    go_quiet ((go_at_call 27; exact Calls.quiet_of_same (CT.out _)))
    by_cases hK : (K : Int) < (c : Int)
    · go_wp2_with fail
      go_ret
      exact ⟨_, rfl, HW.out.t (KpL.drewN _ _ _)⟩
    · have q1 : decide ((K : Int) < (c : Int)) = false := by simpa using hK
      go_wp2_with fail
      go_region_with (go_at_call 28; refine (LY.out (_ + 1)).mono ?_; rintro e w5 ⟨rfl, hk⟩)
      all_goals
        go_wp2_with fail
        go_ret
        exact ⟨_, rfl, HW.out.t ((KpL.drewN _ _ _).t (hk.less hB))⟩
end
end Go.Proofs.Ytpkbmdibiefbdaa
