/- Runs: New, may, meet, nodes; the iterator over no set; Total. -/
import Derived.Test.YtpkbmdibiefbdaaRnA
namespace Go.Proofs.Ytpkbmdibiefbdaa
open Go.RowKit Go.Shelf
set_option linter.unusedVariables false
set_option linter.unusedSimpArgs false

attribute [local go_sem] Oper.semAt_some

/-- A set: its struct in block sb, its chain of nodes. -/
structure IsRn (w : World) (sb : Nat) (ch : List Nd) : Prop where
  s : Blk w sb 50 #[.pointer (some ⟨ndB ch 0, 0, none⟩)]
  c : IsCh w ch
theorem IsRn.nx {w w' : World} {sb : Nat} {ch : List Nd} (h : IsRn w sb ch) (hb : Below w.heap.size w w') : IsRn w' sb ch := ⟨h.s.nx hb, h.c.nx hb⟩

theorem rnew_any (w : World) : Calls Try.prog 7 #[] w fun e w' => e = .returned (.pointer (some ⟨w.heap.size + 1, 0, none⟩)) ∧ IsRn w' (w.heap.size + 1) [(w.heap.size, -2, 1)] ∧ Below w.heap.size w w' := by
  go_enter Try.func7, Try.ntmps7
  go_wp2
  go_ret
  refine ⟨rfl, ⟨?_, ⟨by simp, fun i j hi hj _ => by simp at hi hj; omega, fun i hi => ?_⟩⟩, balloc (balloc (Below.refl _ w) _) _⟩
  · exact Blk.new_at _ _ _ _ (by simp)
  · obtain rfl : i = 0 := by simpa using hi
    exact (Blk.new w 48 #[.int .i64 (-2), .int .i64 1, .pointer none]).alloc _

/-- May a run be? -/
def mayB (a l : Int) : Bool := decide (0 ≤ a ∧ 1 ≤ l ∧ a ≤ 65536 ∧ l ≤ 65536 - a)
theorem may_any (w : World) (a l : Int) : Calls Try.prog 23 #[.agg #[.int .i64 a, .int .i64 l]] w fun e w' => e = .returned (.bool (mayB a l)) ∧ Below w.heap.size w w' := by
  obtain ⟨c0, c1⟩ := (Blk.new w 24 #[.int .i64 a, .int .i64 l]).c2
  by_cases h1 : 0 ≤ a ∧ 1 ≤ l ∧ a ≤ 65536
  · obtain ⟨h1, h2, h3⟩ := h1
    have e1 : wrap64 (65536 - a) = 65536 - a := by simp [wrap64]; omega
    have e2 : IntKind.i64.wrap (65536 - a) = 65536 - a := by simp [IntKind.wrap, IntKind.signed, IntKind.bits]; omega
    by_cases h4 : l ≤ 65536 - a
    · have hv : mayB a l = true := by simp [mayB]; omega
      have d1 : decide (65536 - a < l) = false := by simpa using h4
      rw [hv]
      go_enter Try.func23, Try.ntmps23
      go_wp2_with fail
      go_ret
      exact ⟨by first | rfl | simp [d1], balloc (Below.refl _ w) _⟩
    · have hv : mayB a l = false := by simp [mayB]; omega
      have d1 : decide (65536 - a < l) = true := by simp; omega
      rw [hv]
      go_enter Try.func23, Try.ntmps23
      go_wp2_with fail
      go_ret
      exact ⟨by first | rfl | simp [d1], balloc (Below.refl _ w) _⟩
  · have hv : mayB a l = false := by simp [mayB]; omega
    rw [hv]
    have hcs : a < 0 ∨ (0 ≤ a ∧ l < 1) ∨ (0 ≤ a ∧ 1 ≤ l ∧ 65536 < a) := by omega
    clear h1
    rcases hcs with h1 | ⟨h1, h2⟩ | ⟨h1, h2, h3⟩
    all_goals
      go_enter Try.func23, Try.ntmps23
      go_wp2_with fail
      go_ret
      exact ⟨rfl, balloc (Below.refl _ w) _⟩

theorem nodes_any (p : Option Addr) (w : World) : Calls Try.prog 22 #[.pointer p] w fun e w' => e = .returned (.func (.func 29) #[] #[.pointer (some ⟨w.heap.size, 0, none⟩)]) ∧ w' = w.alloc (.cells #[.pointer p] 26) := by
  go_enter Try.func22, Try.ntmps22
  go_wp2
  go_ret
  exact ⟨rfl, rfl⟩

set_option maxRecDepth 100000 in
theorem nodes1_nil_in {α : Type} (n : Nat) (l Bn : Nat) (J : List α → World → Prop) (W : World) (hB : Blk W Bn 26 #[.pointer none]) (h0 : J [] W) :
    CallsIn Fence.wide n Try.prog 29 #[.func (.yield l) #[] #[], .pointer (some ⟨Bn, 0, none⟩)] W fun e W' => (∃ v, e = .returned v) ∧ J [] W' := by
  have cB := hB.c1
  refine callsIn_of_wp Try.func29 rfl trivial ?_ rfl
  simp only [Try.ntmps29, List.size_toArray, List.length_cons, List.length_nil, Nat.reduceAdd, Nat.reduceSub, Array.replicate_succ, Array.replicate_zero, List.push_toArray, List.append_toArray, List.nil_append, List.cons_append]
  gi_wp2_with fail
  refine bodyPost_ret (results_none rfl _ _ _) rfl ?_
  exact ⟨⟨_, rfl⟩, h0⟩
end Go.Proofs.Ytpkbmdibiefbdaa
