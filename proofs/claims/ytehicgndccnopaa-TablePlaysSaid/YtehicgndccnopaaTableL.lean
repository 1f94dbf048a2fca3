/- Layer 6: contracts by case; the chapter's example. -/
import Derived.Test.YtehicgndccnopaaTableP
import Derived.Test.YtehicgndccnopaaRefG
namespace Go.Proofs.Ytehicgndccnopaa
open Go.RowKit
set_option linter.unusedVariables false
set_option linter.unusedSimpArgs false

/-- A table that is given with no error. -/
def GivesTbE (ts : List Ty) (w : World) (e : Ending) (w' : World) : Prop :=
  ∃ tb g v, e = .returned (.tuple #[.pointer (some ⟨tb, 0, none⟩), .int .i64 0]) ∧ IsTb w' w.heap.size tb g v ts ∧ w.heap.size ≤ g ∧ Below w.heap.size w w'

section
variable (w : World) (A : Option Addr) (n c : Nat) (ts : List Ty) (hr : Reads w w.heap.size 3 A n (ts.flatMap tyC)) (hl : ts.length = n) (hok : ∀ t ∈ ts, OkW t) (hn : n ≤ 1000000)
include hr hl hok hn
theorem newT_ok (h : newE [] ts = 0) : Calls Try.prog 43 #[.slice A n c] w (GivesTbE ts w) :=
  (newT_any w A n c ts hr hl hok hn).mono fun _ _ hg => by
    rcases hg with ⟨h1, _⟩ | ⟨_, hg⟩
    · exact absurd h h1
    · exact hg
theorem newT_no (h : newE [] ts ≠ 0) : Calls Try.prog 43 #[.slice A n c] w fun e w' => e = .returned (.tuple #[.pointer none, .int .i64 (newE [] ts)]) ∧ Below w.heap.size w w' :=
  (newT_any w A n c ts hr hl hok hn).mono fun _ _ hg => by
    rcases hg with ⟨_, hg⟩ | ⟨h1, _⟩
    · exact hg
    · exact absurd h1 h
end

theorem ty_newL (w : World) (k wd : Int) (mk : Nat) : Reads (w.alloc (.cells #[.int .u8 k, .int .i64 wd, .int .u64 (mk : Int)] 24)) (w.alloc (.cells #[.int .u8 k, .int .i64 wd, .int .u64 (mk : Int)] 24)).heap.size 3 (some ⟨w.heap.size, 0, none⟩) 1 ([(k, wd, mk)].flatMap tyC) := by
  have := ty_new w w.heap.size k wd mk rfl (B := w.heap.size + 1) (by omega)
  simpa using this

theorem alive06a : newE [] [((4 : Int), (0 : Int), (0 : Nat))] = 0 := by decide +kernel
theorem alive06b : addE [((4 : Int), (0 : Int), (0 : Nat))] (1, 2, 0) = 0 ∧ addN [((4 : Int), (0 : Int), (0 : Nat))] (1, 2, 0) = 2 ∧ addL [((4 : Int), (0 : Int), (0 : Nat))] (1, 2, 0) = [(4, 0, 0), (1, 2, 0)] := by decide +kernel
theorem alive06c : getE [((4 : Int), (0 : Int), (0 : Nat)), (1, 2, 0)] 3 = 3 ∧ getT [((4 : Int), (0 : Int), (0 : Nat)), (1, 2, 0)] 3 = (0, 0, 0) := by decide +kernel
theorem alive06d : addE [((4 : Int), (0 : Int), (0 : Nat)), (1, 2, 0)] (0, 0, 0) = 2 ∧ addN [((4 : Int), (0 : Int), (0 : Nat)), (1, 2, 0)] (0, 0, 0) = 0 ∧ addL [((4 : Int), (0 : Int), (0 : Nat)), (1, 2, 0)] (0, 0, 0) = [(4, 0, 0), (1, 2, 0)] := by decide +kernel
theorem alive06e : putB [((4 : Int), (0 : Int), (0 : Nat)), (1, 2, 0)] = [2, 4, 0, 0, 0, 0, 0, 0, 0, 0, 0, 1, 2, 0, 0, 0, 0, 0, 0, 0, 0] := by decide +kernel

theorem alive06f : strOfNums [2, 4, 0, 0, 0, 0, 0, 0, 0, 0, 0, 1, 2, 0, 0, 0, 0, 0, 0, 0, 0] = { data := #[2, 4, 0, 0, 0, 0, 0, 0, 0, 0, 0, 1, 2, 0, 0, 0, 0, 0, 0, 0, 0] } := by kernel_rfl

set_option maxRecDepth 100000 in
set_option maxHeartbeats 2000000 in
theorem alive06 (w : World) : Calls Try.prog 42 #[] w fun e w' => e = .returned (.bool true) ∧ Below w.heap.size w w' := by
  have HN := Lib.hid (newT_ok (w.alloc (.cells #[.int .u8 4, .int .i64 0, .int .u64 0] 24)) (some ⟨w.heap.size, 0, none⟩) 1 1 [(4, 0, 0)] (ty_newL w 4 0 0) rfl (by intro t ht; simp at ht; subst ht; exact ⟨by decide, by decide, by decide, by decide, by decide⟩) (by omega) alive06a)
  go_enter Try.func42, Try.ntmps42
  go_wp2_with fail
  refine HN.out.mono ?_
  rintro e w1 ⟨tb, g, v, rfl, hI1, hg1, hb1⟩
  have I1 := Lib.hid hI1
  have B1 := Lib.hid (bnext (balloc (Below.refl _ w) _) hb1)
  have z1 := hb1.size
  clear hI1 hb1 HN
  go_wp2_with fail
  refine (add_any _ _ tb g v _ I1.out z1 1 2 0 (by omega) (by omega) (by omega)).mono ?_
  rintro e w2 ⟨rfl, g2, v2, hI2, hg2, hT2⟩
  rw [alive06b.1, alive06b.2.1]
  rw [alive06b.2.2] at hI2
  have I2 := Lib.hid hI2
  have B2 := Lib.hid (Below.touch B1.out (by have := I1.out.lo; simp at this; omega) (by simp at hg1; omega) (Nat.le_refl _) hT2)
  have z2 : w.heap.size + 1 ≤ w2.heap.size := by have := hT2.size; simp at z1; omega
  have y2 : w.heap.size ≤ g2 := by simp at hg1 z1; omega
  clear hI2 hT2 hg2 hg1 I1 B1 z1
  go_wp2_with fail
  refine (get_any _ _ tb g2 v2 _ I2.out 3 (by omega) (by omega)).mono ?_
  rintro e w3 ⟨rfl, hb3⟩
  rw [alive06c.1, alive06c.2]
  have B3 := Lib.hid (bnext B2.out hb3)
  have I3 := Lib.hid ((I2.out.nx hb3).nx ((Below.refl _ w3).alloc (Nat.le_refl _) (.cells #[.int .u8 0, .int .i64 0, .int .u64 0] 24)))
  have z3 := hb3.size
  clear hb3
  go_wp2_with fail
  refine (add_any _ _ tb g2 v2 _ I3.out (by simp; omega) 0 0 0 (by omega) (by omega) (by omega)).mono ?_
  rintro e w4 ⟨rfl, g4, v4, hI4, hg4, hT4⟩
  rw [alive06d.1, alive06d.2.1]
  rw [alive06d.2.2] at hI4
  have I4 := Lib.hid hI4
  have B4 := Lib.hid (Below.touch (balloc B3.out _) (by have := I2.out.lo; simp at this; omega) y2 (Nat.le_refl _) hT4)
  clear hI4 hT4 hg4
  go_wp2_with fail
  refine (put_bytes _ _ tb g4 v4 _ I4.out (by intro t ht; simp at ht; rcases ht with rfl | rfl <;> exact ⟨by decide, by decide, by decide, by decide, by decide⟩)).mono ?_
  rintro e w5 ⟨rfl, hb5⟩
  rw [alive06e, alive06f]
  have B5 := Lib.hid (bnext B4.out hb5)
  clear hb5
  go_wp2_with fail
  go_ret
  exact ⟨ret_bool (by kernel_rfl), B5.out⟩
end Go.Proofs.Ytehicgndccnopaa
