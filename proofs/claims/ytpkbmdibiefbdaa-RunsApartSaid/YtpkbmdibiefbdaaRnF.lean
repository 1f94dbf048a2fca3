/- Runs: join. -/
import Derived.Test.YtpkbmdibiefbdaaRnE
import Derived.BigQuiet
import Derived.Deep.RegionHeld3
namespace Go.Proofs.Ytpkbmdibiefbdaa
open Go.RowKit
set_option linter.unusedVariables false
set_option linter.unusedSimpArgs false

/-- A node that has no next one. -/
theorem join_last (w : World) (b : Nat) (a l : Int) (h : Blk w b 48 #[.int .i64 a, .int .i64 l, .pointer none]) :
    Calls Try.prog 25 #[.pointer (some ⟨b, 0, none⟩)] w fun e w' => (∃ v, e = .returned v) ∧ w' = w := by
  obtain ⟨c0, c1, c2⟩ := h.c3
  clear h
  go_enter Try.func25, Try.ntmps25
  go_wp2_with fail
  first
    | exact ⟨⟨_, rfl⟩, rfl⟩
    | (go_end0; exact ⟨⟨_, rfl⟩, rfl⟩)
    | (refine bodyPost_ret (results_none rfl _ _ _) rfl ?_; exact ⟨⟨_, rfl⟩, rfl⟩)

set_option maxHeartbeats 2000000 in
/-- Two nodes that do not touch. -/
theorem join_apart (w : World) (b b2 : Nat) (a l a2 l2 : Int) (x : Option Addr) (h : Blk w b 48 #[.int .i64 a, .int .i64 l, .pointer (some ⟨b2, 0, none⟩)]) (h2 : Blk w b2 48 #[.int .i64 a2, .int .i64 l2, .pointer x])
    (hb : -10 ≤ a ∧ 0 ≤ l ∧ a + l ≤ 1000000) (hne : a + l ≠ a2) :
    Calls Try.prog 25 #[.pointer (some ⟨b, 0, none⟩)] w fun e w' => (∃ v, e = .returned v) ∧ ∃ k, w' = w.drewN k := by
  obtain ⟨c0, c1, c2⟩ := h.c3
  obtain ⟨d0, d1, d2⟩ := h2.c3
  have e1 : IntKind.i64.wrap (a + l) = a + l := by simp [IntKind.wrap, IntKind.signed, IntKind.bits]; omega
  have e3 : wrap64 (a + l) = a + l := by simp [wrap64]; omega
  have r1 : (a + l == a2) = false := by simpa using hne
  clear h h2 hb hne
  go_enter Try.func25, Try.ntmps25
  go_wp2_with fail
  go_quiet (fail)
  go_wp2_with fail
  go_end0
  exact ⟨⟨_, rfl⟩, _, rfl⟩

set_option maxHeartbeats 4000000 in
/-- Two nodes that touch. -/
theorem join_meet (w : World) (b b2 : Nat) (hbb : b ≠ b2) (a l a2 l2 : Int) (x : Option Addr) (h : Blk w b 48 #[.int .i64 a, .int .i64 l, .pointer (some ⟨b2, 0, none⟩)]) (h2 : Blk w b2 48 #[.int .i64 a2, .int .i64 l2, .pointer x])
    (hb : -10 ≤ a ∧ 0 ≤ l ∧ a + l ≤ 1000000 ∧ 0 ≤ l2 ∧ l2 ≤ 1000000) (he : a + l = a2) :
    Calls Try.prog 25 #[.pointer (some ⟨b, 0, none⟩)] w fun e w' => (∃ v, e = .returned v) ∧ ∃ k, w' = ((w.drewN k).setCell ⟨b, 1, none⟩ (.int .i64 (l + l2))).setCell ⟨b, 2, none⟩ (.pointer x) := by
  obtain ⟨c0, c1, c2⟩ := h.c3
  obtain ⟨d0, d1, d2⟩ := h2.c3
  have f1 := h.frozen 1
  have f2 := h.frozen 2
  have e1 : IntKind.i64.wrap (a + l) = a + l := by simp [IntKind.wrap, IntKind.signed, IntKind.bits]; omega
  have e3 : wrap64 (a + l) = a + l := by simp [wrap64]; omega
  have e2 : IntKind.i64.wrap (l + l2) = l + l2 := by simp [IntKind.wrap, IntKind.signed, IntKind.bits]; omega
  have e4 : wrap64 (l + l2) = l + l2 := by simp [wrap64]; omega
  have r1 : (a + l == a2) = true := by simpa using he
  clear h h2 hb he
  go_enter Try.func25, Try.ntmps25
  go_wp2_with fail
  go_quiet (fail)
  go_wp2_with fail
  go_region
  all_goals
    go_wp2_with fail
    go_end0
    exact ⟨⟨_, rfl⟩, _, rfl⟩
end Go.Proofs.Ytpkbmdibiefbdaa
