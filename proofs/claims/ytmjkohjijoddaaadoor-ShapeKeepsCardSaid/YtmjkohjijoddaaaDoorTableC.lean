/- Tables: at, Get. -/
import Derived.Test.YtmjkohjijoddaaaDoorTableB
namespace Go.Proofs.YtmjkohjijoddaaaDoor
open Go.RowKit
set_option linter.unusedVariables false
set_option linter.unusedSimpArgs false

theorem tyC_at (ts : List Ty) : ∀ i, i < ts.length → (ts.flatMap tyC)[i * 3]? = some (.int .u8 (ts.getD i (0, 0, 0)).1) ∧ (ts.flatMap tyC)[i * 3 + 1]? = some (.int .i64 (ts.getD i (0, 0, 0)).2.1) ∧ (ts.flatMap tyC)[i * 3 + 2]? = some (.int .u64 ((ts.getD i (0, 0, 0)).2.2 : Int)) := by
  induction ts with
  | nil => intro i hi; simp at hi
  | cons t ts ih =>
    intro i hi
    cases i with
    | zero => simp [tyC]
    | succ i =>
      have := ih i (by simpa using hi)
      have e : (i + 1) * 3 = i * 3 + 3 := by omega
      rw [e]
      simpa [tyC, List.getD] using this

/-- Is there such a number? -/
def inT (ts : List Ty) (id : Int) : Bool := decide (1 ≤ id) && decide (id ≤ ts.length)
def getT (ts : List Ty) (id : Int) : Ty := if inT ts id then ts.getD (id - 1).toNat (0, 0, 0) else (0, 0, 0)

set_option maxHeartbeats 1000000 in
theorem at_any (w : World) (B tb g : Nat) (v : Value) (ts : List Ty) (h : IsTb w B tb g v ts) (id : Int) (i0 : -9223372036854775808 ≤ id) (i1 : id ≤ 9223372036854775807) :
    Calls Tryd.prog 70 #[.pointer (some ⟨tb, 0, none⟩), .int .i64 id] w fun e w' =>
      e = .returned (.tuple #[.agg #[.int .u8 (getT ts id).1, .int .i64 (getT ts id).2.1, .int .u64 ((getT ts id).2.2 : Int)], .bool (inT ts id)]) ∧ Below w.heap.size w w' := by
  have htl := h.s.lt
  have hle := h.hi
  by_cases hin : 1 ≤ id ∧ id ≤ ts.length
  · have HN := Lib.hid (show inT ts id = true by simp [inT, hin])
    obtain ⟨j, hj⟩ : ∃ j : Nat, id = (j : Int) + 1 := ⟨(id - 1).toNat, by omega⟩
    subst hj
    have hjl : j < ts.length := by omega
    have HG := Lib.hid (show getT ts ((j : Int) + 1) = ts.getD j (0, 0, 0) by simp [getT, HN.out])
    obtain ⟨gg, cap, cur, hv, _, hlt⟩ : ∃ gg cap, ∃ _ : Unit, v = .slice (some ⟨gg, 0, none⟩) ts.length cap ∧ True ∧ gg < w.heap.size := by
      rcases h.r.2 with ⟨_, h0⟩ | ⟨gg, cap, cur, e, _, hg, _⟩
      · omega
      · exact ⟨gg, cap, (), e, trivial, Blk.lt hg⟩
    subst hv
    have hc := fun q hq => h.r.cellAt q hq
    obtain ⟨a0, a1, a2⟩ := tyC_at ts j hjl
    have c0 := h.s.c1
    have d0 := (hc (j * 3) (by omega)).trans a0
    have d1 := (hc (j * 3 + 1) (by omega)).trans a1
    have d2 := (hc (j * 3 + 2) (by omega)).trans a2
    clear hc a0 a1 a2 h hin i0 i1
    generalize ts.getD j (0, 0, 0) = t at *
    obtain ⟨t1, t2, t3⟩ := t
    go_enter Tryd.func70, Tryd.ntmps70
    go_wp2_with fail
    refine bodyPost_ret (v := .tuple #[.agg #[.int .u8 t1, .int .i64 t2, .int .u64 (t3 : Int)], .bool true]) (by simp [results, Tryd.results70, go_sem]) rfl ⟨by rw [HN.out, HG.out], balloc (Below.refl _ w) _⟩
  · have HN := Lib.hid (show inT ts id = false by simp [inT]; omega)
    have HG := Lib.hid (show getT ts id = (0, 0, 0) by simp [getT, HN.out])
    obtain ⟨A, c, hv, hnc⟩ := own_form h.r
    subst hv
    have c0 := h.s.c1
    clear h
    rcases (by omega : id < 1 ∨ (1 ≤ id ∧ (ts.length : Int) < id)) with h1 | ⟨h1, h2⟩
    all_goals
      clear hin
      go_enter Tryd.func70, Tryd.ntmps70
      go_wp2_with fail
      refine bodyPost_ret (v := .tuple #[.agg #[.int .u8 0, .int .i64 0, .int .u64 0], .bool false]) (by simp [results, Tryd.results70, go_sem]) rfl ⟨by rw [HN.out, HG.out]; rfl, balloc (Below.refl _ w) _⟩
end Go.Proofs.YtmjkohjijoddaaaDoor
