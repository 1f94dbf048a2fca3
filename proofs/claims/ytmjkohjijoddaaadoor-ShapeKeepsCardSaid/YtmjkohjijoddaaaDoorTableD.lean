/- Tables: Get. -/
import Derived.Test.YtmjkohjijoddaaaDoorTableC
namespace Go.Proofs.YtmjkohjijoddaaaDoor
open Go.RowKit
set_option linter.unusedVariables false
set_option linter.unusedSimpArgs false

def getE (ts : List Ty) (id : Int) : Int := if inT ts id then 0 else 3

set_option maxHeartbeats 1000000 in
theorem get_any (w : World) (B tb g : Nat) (v : Value) (ts : List Ty) (h : IsTb w B tb g v ts) (id : Int) (i0 : -9223372036854775808 ≤ id) (i1 : id ≤ 9223372036854775807) :
    Calls Tryd.prog 56 #[.pointer (some ⟨tb, 0, none⟩), .int .i64 id] w fun e w' =>
      e = .returned (.tuple #[.agg #[.int .u8 (getT ts id).1, .int .i64 (getT ts id).2.1, .int .u64 ((getT ts id).2.2 : Int)], .int .i64 (getE ts id)]) ∧ Below w.heap.size w w' := by
  have HI := Lib.hid h
  have HA := Lib.hid (fun W (hW : IsTb W B tb g v ts) => at_any W B tb g v ts hW id i0 i1)
  clear h i0 i1
  cases hin : inT ts id
  all_goals
    have HN := Lib.hid hin
    clear hin
    go_enter Tryd.func56, Tryd.ntmps56
    go_wp2_with fail
    refine (HA.out _ (HI.out.nx ((Below.refl _ _).alloc (Nat.le_refl _) _))).mono ?_
    rintro e w1 ⟨rfl, hb⟩
    rw [HN.out]
    have b1 := (Blk.new w 72 #[.int .u8 0, .int .i64 0, .int .u64 0]).nx hb
    have hB := bnext (balloc (Below.refl _ w) _) hb
    have hz := b1.lt
    clear hb
    obtain ⟨c0, c1, c2⟩ := b1.c3
    have g0 := b1.frozen 0
    have g1 := b1.frozen 1
    have g2 := b1.frozen 2
    clear b1
    go_wp2_with fail
  · have HG := Lib.hid (show getT ts id = (0, 0, 0) by simp [getT, HN.out])
    refine bodyPost_ret (v := .tuple #[.agg #[.int .u8 0, .int .i64 0, .int .u64 0], .int .i64 3]) (by simp [results, Tryd.results56, go_sem, c0, c1, c2, hz]) rfl ⟨by rw [HG.out]; simp [getE, HN.out], ?_⟩
    exact balloc (((hB.setCell (p := ⟨w.heap.size, 0, none⟩) (Nat.le_refl _) _).setCell (p := ⟨w.heap.size, 1, none⟩) (Nat.le_refl _) _).setCell (p := ⟨w.heap.size, 2, none⟩) (Nat.le_refl _) _) _
  · refine bodyPost_ret (v := .tuple #[.agg #[.int .u8 (getT ts id).1, .int .i64 (getT ts id).2.1, .int .u64 ((getT ts id).2.2 : Int)], .int .i64 0]) (by simp [results, Tryd.results56, go_sem, c0, c1, c2, hz]) rfl ⟨by simp [getE, HN.out], ?_⟩
    exact balloc (((hB.setCell (p := ⟨w.heap.size, 0, none⟩) (Nat.le_refl _) _).setCell (p := ⟨w.heap.size, 1, none⟩) (Nat.le_refl _) _).setCell (p := ⟨w.heap.size, 2, none⟩) (Nat.le_refl _) _) _
end Go.Proofs.YtmjkohjijoddaaaDoor
