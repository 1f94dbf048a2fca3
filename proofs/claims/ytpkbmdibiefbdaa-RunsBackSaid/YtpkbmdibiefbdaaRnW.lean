/- Runs: a step of both. -/
import Derived.Test.YtpkbmdibiefbdaaRnU
import Derived.Deep.RegionWith
namespace Go.Proofs.Ytpkbmdibiefbdaa
open Go.RowKit
set_option linter.unusedVariables false
set_option linter.unusedSimpArgs false

/-- What a step of both gives. -/
def GivesDo (B sb : Nat) (w : World) (e : Ending) (w' : World) : Prop := (∃ b, e = .returned (.bool b)) ∧ (∃ rs', IsSet w' B sb rs') ∧ KpX B w w'

section
variable (w : World) (B sb : Nat) (rs : List Rn) (h : IsSet w B sb rs) (hBw : B ≤ w.heap.size) (n rb bb gb : Nat) (cs : List Bool) (h4 : IsB4 w n rb bb gb cs) (hn : n = 65536) (hgb : B ≤ gb) (d a l : Int)
include h hBw h4 hn hgb
set_option maxRecDepth 100000 in
set_option maxHeartbeats 4000000 in
theorem does_any : Calls Try.prog 8 #[.pointer (some ⟨sb, 0, none⟩), .pointer (some ⟨rb, 0, none⟩), .agg #[.int .i64 d, .int .i64 a, .int .i64 l]] w (GivesDo B sb w) := by
  have hb0 := balloc (Below.refl _ w) (.cells #[.int .i64 d, .int .i64 a, .int .i64 l] 32)
  have b0 := Blk.new w 32 #[.int .i64 d, .int .i64 a, .int .i64 l]
  obtain ⟨c0, c1, c2⟩ := b0.c3
  have hB2 : B ≤ (w.alloc (.cells #[.int .i64 d, .int .i64 a, .int .i64 l] 32)).heap.size := Nat.le_trans hBw hb0.size
  have HS := Lib.hid (h.nx (hb0.trans (Below.refl _ _).drew))
  have H4 := Lib.hid (h4.nx (hb0.trans (Below.refl _ _).drew))
  have HX := Lib.hid ((KpR.of_below hb0 hBw).t (KpR.drewN B (w.alloc (.cells #[.int .i64 d, .int .i64 a, .int .i64 l] 32)) 1)).x
  have HX0 := Lib.hid (KpR.of_below hb0 hBw).x
  have HS0 := Lib.hid (h.nx hb0)
  have HB := Lib.hid b0
  have HB2 := Lib.hid hB2
  have HGB := Lib.hid hgb
  have HN := Lib.hid hn
  clear hb0 b0 h h4 hBw hB2 hgb hn
  by_cases h0 : d = 0
  · subst h0
    go_enter Try.func8, Try.ntmps8
    go_wp2_with fail
    go_region_with (first | (go_at_call 11; refine (add_ex _ B sb rs HS.out HB2.out a l).mono ?_; rintro e wa ⟨⟨v1, rfl⟩, hs1, hk1⟩; obtain ⟨k0, k1, k2⟩ := (hk1.2.2 _ _ _ (by decide) HB.out).c3) | (go_at_call 19; refine (radd_any _ B n rb bb gb cs (H4.out.kpR hk1) HN.out HGB.out (Nat.le_trans HB2.out hk1.2.1) a l).mono ?_; rintro e wb ⟨v2, rfl, hk2⟩))
    all_goals
      go_wp2_with fail
      go_ret
      obtain ⟨rs', hs1⟩ := hs1
      exact ⟨⟨_, rfl⟩, ⟨rs', hk2.set hs1⟩, HX.out.t (hk1.x.t hk2.x)⟩
  by_cases h1 : d = 1
  · subst h1
    go_enter Try.func8, Try.ntmps8
    go_wp2_with fail
    go_region_with (first | (go_at_call 12; refine (cut_ex _ B sb rs HS.out HB2.out a l).mono ?_; rintro e wa ⟨⟨v1, rfl⟩, hs1, hk1⟩; obtain ⟨k0, k1, k2⟩ := (hk1.2.2 _ _ _ (by decide) HB.out).c3) | (go_at_call 20; refine (rcut_any _ B n rb bb gb cs (H4.out.kpR hk1) HN.out HGB.out (Nat.le_trans HB2.out hk1.2.1) a l).mono ?_; rintro e wb ⟨v2, rfl, hk2⟩))
    all_goals
      go_wp2_with fail
      go_ret
      obtain ⟨rs', hs1⟩ := hs1
      exact ⟨⟨_, rfl⟩, ⟨rs', hk2.set hs1⟩, HX.out.t (hk1.x.t hk2.x)⟩
  · have q0 : (d == 0) = false := by simpa using h0
    have q1 : (d == 1) = false := by simpa using h1
    go_enter Try.func8, Try.ntmps8
    go_wp2_with fail
    go_ret
    exact ⟨⟨_, rfl⟩, ⟨rs, HS0.out⟩, HX0.out⟩
end
end Go.Proofs.Ytpkbmdibiefbdaa
