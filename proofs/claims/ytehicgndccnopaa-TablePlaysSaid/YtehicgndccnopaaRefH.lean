/- The document's answer of layer 6: Same. -/
import Derived.Test.YtehicgndccnopaaRefG
import Derived.Test.YtehicgndccnopaaSame
namespace Go.Proofs.Ytehicgndccnopaa
open Go.RowKit
set_option linter.unusedVariables false
set_option linter.unusedSimpArgs false

set_option maxRecDepth 100000 in
set_option maxHeartbeats 2000000 in
theorem sameT_any (w : World) (A1 A2 : Option Addr) (n1 c1 n2 c2 : Nat) (xs ys : List Ty) (r1 : Reads w w.heap.size 3 A1 n1 (xs.flatMap tyC)) (r2 : Reads w w.heap.size 3 A2 n2 (ys.flatMap tyC)) (l1 : xs.length = n1) (l2 : ys.length = n2) (m1 : n1 ≤ 1000000000) (m2 : n2 ≤ 1000000000) :
    Calls Try.prog 46 #[.slice A1 n1 c1, .slice A2 n2 c2] w fun e w' => e = .returned (.bool (decide (xs = ys))) ∧ Below w.heap.size w w' := by
  by_cases hn : n1 = n2
  · have hne : ((n1 : Int) != (n2 : Int)) = false := by simp [hn]
    have L1 := Lib.hid l1
    have L2 := Lib.hid l2
    have R1 := Lib.hid r1
    have R2 := Lib.hid r2
    subst hn
    clear r1 r2 l1 l2 m2
    go_enter Try.func46, Try.ntmps46
    go_wp2_with fail
    go_loopw [5] (fun i wr => ∃ c : Nat, c ≤ n1 ∧ i = .int .i64 (c : Int) ∧ Hid (xs.take c = ys.take c) ∧ Below w.heap.size w wr) (fun i _ => n1 - (intOf i).toNat)
    case atStart => exact ⟨0, by omega, rfl, Lib.hid rfl, Below.refl _ _⟩
    case round =>
      obtain ⟨c, hc, rfl, HT, hbl⟩ := hrel
      by_cases hlt : c < n1
      · obtain ⟨b1, o1, rfl, hb1, p0, p1, p2⟩ := R1.out.ty hlt
        obtain ⟨b2, o2, rfl, hb2, q0, q1, q2⟩ := R2.out.ty hlt
        have p0' := (hbl.cell (p := ⟨b1, o1 + c * 3, none⟩) hb1).trans p0
        have p1' := (hbl.cell (p := ⟨b1, o1 + c * 3 + 1, none⟩) hb1).trans p1
        have p2' := (hbl.cell (p := ⟨b1, o1 + c * 3 + 2, none⟩) hb1).trans p2
        have q0' := (hbl.cell (p := ⟨b2, o2 + c * 3, none⟩) hb2).trans q0
        have q1' := (hbl.cell (p := ⟨b2, o2 + c * 3 + 1, none⟩) hb2).trans q1
        have q2' := (hbl.cell (p := ⟨b2, o2 + c * 3 + 2, none⟩) hb2).trans q2
        clear p0 p1 p2 q0 q1 q2
        have hlt' : (c : Int) < (n1 : Int) := by omega
        have h0 : (0 : Int) ≤ (c : Int) := by omega
        generalize hx : xs.getD c (0, 0, 0) = x at *
        generalize hy : ys.getD c (0, 0, 0) = y at *
        obtain ⟨x1, x2, x3⟩ := x
        obtain ⟨y1, y2, y3⟩ := y
        have HX := Lib.hid hx
        have HY := Lib.hid hy
        clear hx hy
        rcases (by
          rcases Decidable.em (x1 = y1) with e1 | e1
          · rcases Decidable.em (x2 = y2) with e2 | e2
            · rcases Decidable.em (x3 = y3) with e3 | e3
              · exact .inl ⟨e1, e2, e3⟩
              · exact .inr (.inr (.inr ⟨e1, e2, e3⟩))
            · exact .inr (.inr (.inl ⟨e1, e2⟩))
          · exact .inr (.inl e1) : (x1 = y1 ∧ x2 = y2 ∧ x3 = y3) ∨ x1 ≠ y1 ∨ (x1 = y1 ∧ x2 ≠ y2) ∨ (x1 = y1 ∧ x2 = y2 ∧ x3 ≠ y3)) with ⟨rfl, rfl, rfl⟩ | e1 | ⟨rfl, e2⟩ | ⟨rfl, rfl, e3⟩
        · go_wp2_with fail
          go_quiet (fail)
          go_wp2_with fail
          go_roundw
          case rel =>
            refine ⟨c + 1, by omega, by go_num, Lib.hid ?_, below_drewN hbl _⟩
            rw [take_getD xs c (0, 0, 0) (by rw [L1.out]; exact hlt), take_getD ys c (0, 0, 0) (by rw [L2.out]; exact hlt), HX.out, HY.out, HT.out]
          case measure => simp [intOf]; omega
        · have q1 : (x1 == y1) = false := by simpa using e1
          have E := Lib.hid e1
          clear e1
          go_wp2_with fail
          go_quiet (fail)
          go_wp2_with fail
          go_ret
          refine ⟨ret_bool ?_, below_drewN hbl _⟩
          symm
          rw [decide_eq_false_iff_not]
          intro h
          rw [h] at HX
          have := HX.out.symm.trans HY.out
          exact E.out (by injection this)
        · have q1 : (x2 == y2) = false := by simpa using e2
          have E := Lib.hid e2
          clear e2
          go_wp2_with fail
          go_quiet (fail)
          go_wp2_with fail
          go_ret
          refine ⟨ret_bool ?_, below_drewN hbl _⟩
          symm
          rw [decide_eq_false_iff_not]
          intro h
          rw [h] at HX
          have := HX.out.symm.trans HY.out
          simp at this
          exact E.out this.1
        · have q1 : ((x3 : Int) == (y3 : Int)) = false := by rw [beq_eq_false_iff_ne]; omega
          have E := Lib.hid e3
          clear e3
          go_wp2_with fail
          go_quiet (fail)
          go_wp2_with fail
          go_ret
          refine ⟨ret_bool ?_, below_drewN hbl _⟩
          symm
          rw [decide_eq_false_iff_not]
          intro h
          rw [h] at HX
          have := HX.out.symm.trans HY.out
          simp at this
          exact E.out this
      · obtain rfl : c = n1 := by omega
        go_wp2_with fail
        go_ret
        refine ⟨ret_bool ?_, hbl⟩
        symm
        rw [decide_eq_true_iff]
        have h := HT.out
        rw [List.take_of_length_le (by rw [L1.out]; omega), List.take_of_length_le (by rw [L2.out]; omega)] at h
        exact h
  · have hne : ((n1 : Int) != (n2 : Int)) = true := by simp; omega
    have HN := Lib.hid hn
    have L1 := Lib.hid l1
    have L2 := Lib.hid l2
    clear hn r1 r2 l1 l2
    go_enter Try.func46, Try.ntmps46
    go_wp2_with fail
    go_ret
    refine ⟨ret_bool ?_, Below.refl _ _⟩
    symm
    rw [decide_eq_false_iff_not]
    rintro rfl
    exact HN.out (L1.out.symm.trans L2.out)
end Go.Proofs.Ytehicgndccnopaa
