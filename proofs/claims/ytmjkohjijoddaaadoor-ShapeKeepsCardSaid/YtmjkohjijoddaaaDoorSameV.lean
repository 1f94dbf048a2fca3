/- Two rows compared: skerryref08.SameWords. -/
import Derived.Test.YtmjkohjijoddaaaDoorSame
namespace Go.Proofs.YtmjkohjijoddaaaDoor
open Go.RowKit
set_option linter.unusedVariables false
set_option linter.unusedSimpArgs false

set_option maxHeartbeats 1000000 in
theorem sameW_any (w : World) (A1 A2 : Option Addr) (n1 c1 n2 c2 : Nat) (xs ys : List Int) (r1 : Reads w w.heap.size 1 A1 n1 (xs.map (Value.int .u64))) (r2 : Reads w w.heap.size 1 A2 n2 (ys.map (Value.int .u64))) (m1 : n1 ≤ 1000000000) (m2 : n2 ≤ 1000000000) :
    Calls Tryd.prog 21 #[.slice A1 n1 c1, .slice A2 n2 c2] w fun e w' => e = .returned (.bool (decide (xs = ys))) ∧ Below w.heap.size w w' := by
  have l1 : xs.length = n1 := by simpa using r1.1
  have l2 : ys.length = n2 := by simpa using r2.1
  by_cases hn : n1 = n2
  · have hne : ((n1 : Int) != (n2 : Int)) = false := by simp [hn]
    obtain ⟨b1, o1, b2, o2, H1, H2⟩ : ∃ b1 o1 b2 o2, Hid (∀ c, c < n1 → A1 = some ⟨b1, o1, none⟩ ∧ b1 < w.heap.size ∧ w.cell? ⟨b1, o1 + c, none⟩ = some (.int .u64 (xs.getD c 0))) ∧ Hid (∀ c, c < n1 → A2 = some ⟨b2, o2, none⟩ ∧ b2 < w.heap.size ∧ w.cell? ⟨b2, o2 + c, none⟩ = some (.int .u64 (ys.getD c 0))) := by
      rcases Nat.eq_zero_or_pos n1 with h0 | h0
      · exact ⟨0, 0, 0, 0, fun c hc => by omega, fun c hc => by omega⟩
      · obtain ⟨b1, o1, rfl, hb1, hc1⟩ := r1.spot h0
        obtain ⟨b2, o2, rfl, hb2, hc2⟩ := r2.spot (by omega)
        refine ⟨b1, o1, b2, o2, Lib.hid fun c hc => ⟨rfl, hb1, hc1 c _ ?_⟩, Lib.hid fun c hc => ⟨rfl, hb2, hc2 c _ ?_⟩⟩
        · simp [List.getD, l1, hc]
        · simp [List.getD, l2, hn ▸ hc]
    have L1 := Lib.hid l1
    have L2 := Lib.hid l2
    subst hn
    clear r1 r2 l1 l2 m2
    go_enter Tryd.func21, Tryd.ntmps21
    go_wp2_with fail
    go_loopw [5] (fun i wr => ∃ c : Nat, c ≤ n1 ∧ i = .int .i64 (c : Int) ∧ Hid (xs.take c = ys.take c) ∧ Below w.heap.size w wr) (fun i _ => n1 - (intOf i).toNat)
    case atStart => exact ⟨0, by omega, rfl, Lib.hid rfl, Below.refl _ _⟩
    case round =>
      obtain ⟨c, hc, rfl, HT, hbl⟩ := hrel
      by_cases hlt : c < n1
      · obtain ⟨rfl, hb1, k1⟩ := H1.out c hlt
        obtain ⟨rfl, hb2, k2⟩ := H2.out c hlt
        have k1' := (hbl.cell (p := ⟨b1, o1 + c, none⟩) hb1).trans k1
        have k2' := (hbl.cell (p := ⟨b2, o2 + c, none⟩) hb2).trans k2
        have hlt' : (c : Int) < (n1 : Int) := by omega
        have h0 : (0 : Int) ≤ (c : Int) := by omega
        clear k1 k2
        generalize hx : xs.getD c 0 = x at *
        generalize hy : ys.getD c 0 = y at *
        have HX := Lib.hid hx
        have HY := Lib.hid hy
        clear hx hy
        by_cases hxy : x = y
        · have hq : (x != y) = false := by simp [hxy]
          have HXY := Lib.hid hxy
          clear hxy
          go_wp2_with fail
          go_quiet (fail)
          go_wp2_with fail
          go_roundw
          case rel =>
            refine ⟨c + 1, by omega, by go_num, Lib.hid (take_eq_succ HT.out ?_), below_drewN hbl _⟩
            have e1 : xs[c]? = some x := by rw [← HX.out]; simp [List.getD, L1.out, hlt]
            have e2 : ys[c]? = some y := by rw [← HY.out]; simp [List.getD, L2.out, hlt]
            rw [e1, e2, HXY.out]
          case measure => simp [intOf]; omega
        · have hq : (x != y) = true := by simpa using hxy
          have HXY := Lib.hid hxy
          clear hxy
          go_wp2_with fail
          go_quiet (fail)
          go_wp2_with fail
          go_ret
          refine ⟨ret_bool ?_, below_drewN hbl _⟩
          symm
          rw [decide_eq_false_iff_not]
          intro h
          exact HXY.out (by rw [← HX.out, ← HY.out, h])
      · obtain rfl : c = n1 := by omega
        go_wp2_with fail
        go_ret
        refine ⟨ret_bool ?_, hbl⟩
        symm
        rw [decide_eq_true_iff]
        have h := HT.out
        rw [List.take_of_length_le (by rw [L1.out]; omega), List.take_of_length_le (by rw [L2.out]; omega)] at h
        exact h
  · have hne : ((n1 : Int) != (n2 : Int)) = true := by simp; omega
    have HN := Lib.hid hn
    clear hn
    go_enter Tryd.func21, Tryd.ntmps21
    go_wp2_with fail
    go_ret
    refine ⟨ret_bool ?_, Below.refl _ _⟩
    symm
    rw [decide_eq_false_iff_not]
    rintro rfl
    exact HN.out (l1.symm.trans l2)
end Go.Proofs.YtmjkohjijoddaaaDoor
