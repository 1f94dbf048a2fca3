/- Runs: rows of runs compared: skerryref03.SameRuns. -/
import Derived.Test.YtpkbmdibiefbdaaRnJ
import Derived.BigQuiet
namespace Go.Proofs.Ytpkbmdibiefbdaa
open Go.RowKit
set_option linter.unusedVariables false
set_option linter.unusedSimpArgs false

theorem Reads.spotN {w : World} {B size n : Nat} {A : Option Addr} {xs : List Value} (h : Reads w B size A n xs) (hn : 0 < n) (hs : 0 < size) : ∃ b off, A = some ⟨b, off, none⟩ ∧ b < B ∧ ∀ j u, xs[j]? = some u → w.cell? ⟨b, off + j, none⟩ = some u := by
  obtain ⟨⟨b, off, spot⟩, rfl, hb, hc⟩ := h.2 hn
  have hl : 0 < xs.length := by rw [h.1]; exact Nat.mul_pos hn hs
  have h0 := hc 0 _ (List.getElem?_eq_getElem hl)
  have hs : spot = none := by simpa [Addr.add] using World.cell?_spot h0
  subst hs
  refine ⟨b, off, rfl, hb, fun j u hu => ?_⟩
  have := hc j u hu
  rcases Nat.eq_zero_or_pos j with rfl | hj
  · simpa [Addr.add] using this
  · have hj0 : ¬ j = 0 := by omega
    simpa [Addr.add, hj0] using this
theorem rnC_at : ∀ (rs : List Rn) (i : Nat), i < rs.length → (rs.flatMap rnC)[i * 2]? = some (.int .i64 (rs.getD i (0, 0)).1) ∧ (rs.flatMap rnC)[i * 2 + 1]? = some (.int .i64 (rs.getD i (0, 0)).2)
  | x :: t, 0, _ => ⟨rfl, rfl⟩
  | x :: t, i + 1, h => by
    obtain ⟨h1, h2⟩ := rnC_at t i (by simpa using h)
    have e : (x :: t).flatMap rnC = .int .i64 x.1 :: .int .i64 x.2 :: t.flatMap rnC := by simp [rnC]
    rw [e, show (i + 1) * 2 = i * 2 + 1 + 1 by omega, List.getElem?_cons_succ, List.getElem?_cons_succ, show i * 2 + 1 + 1 + 1 = (i * 2 + 1) + 1 + 1 by omega, List.getElem?_cons_succ, List.getElem?_cons_succ]
    exact ⟨h1, h2⟩
theorem Reads.rn {w : World} {B n : Nat} {A : Option Addr} {rs : List Rn} (h : Reads w B 2 A n (rs.flatMap rnC)) {i : Nat} (hi : i < n) :
    ∃ b o, A = some ⟨b, o, none⟩ ∧ b < B ∧ w.cell? ⟨b, o + i * 2, none⟩ = some (.int .i64 (rs.getD i (0, 0)).1) ∧ w.cell? ⟨b, o + i * 2 + 1, none⟩ = some (.int .i64 (rs.getD i (0, 0)).2) := by
  obtain ⟨b, o, rfl, hb, hc⟩ := h.spotN (by omega) (by omega)
  have hl : rs.length = n := by have := h.1; rw [rnC_len] at this; omega
  obtain ⟨a0, a1⟩ := rnC_at rs i (by omega)
  exact ⟨b, o, rfl, hb, hc _ _ a0, hc _ _ a1⟩
theorem take_getD {α : Type} (l : List α) (k : Nat) (d : α) (h : k < l.length) : l.take (k + 1) = l.take k ++ [l.getD k d] := by
  rw [List.take_succ_eq_append_getElem h]; simp [List.getD, h]

set_option maxRecDepth 100000 in
set_option maxHeartbeats 2000000 in
theorem sameR_any (w : World) (A1 A2 : Option Addr) (n1 c1 n2 c2 : Nat) (xs ys : List Rn) (r1 : Reads w w.heap.size 2 A1 n1 (xs.flatMap rnC)) (r2 : Reads w w.heap.size 2 A2 n2 (ys.flatMap rnC)) (m1 : n1 ≤ 1000000000) (m2 : n2 ≤ 1000000000) :
    Calls Try.prog 13 #[.slice A1 n1 c1, .slice A2 n2 c2] w fun e w' => e = .returned (.bool (decide (xs = ys))) ∧ Below w.heap.size w w' := by
  have l1 : xs.length = n1 := by have := r1.1; rw [rnC_len] at this; omega
  have l2 : ys.length = n2 := by have := r2.1; rw [rnC_len] at this; omega
  by_cases hn : n1 = n2
  · have hne : ((n1 : Int) != (n2 : Int)) = false := by simp [hn]
    have L1 := Lib.hid l1
    have L2 := Lib.hid l2
    have R1 := Lib.hid r1
    have R2 := Lib.hid r2
    subst hn
    clear r1 r2 l1 l2 m2
    go_enter Try.func13, Try.ntmps13
    go_wp2_with fail
    go_loopw [5] (fun i wr => ∃ c : Nat, c ≤ n1 ∧ i = .int .i64 (c : Int) ∧ Hid (xs.take c = ys.take c) ∧ Below w.heap.size w wr) (fun i _ => n1 - (intOf i).toNat)
    case atStart => exact ⟨0, by omega, rfl, Lib.hid rfl, Below.refl _ _⟩
    case round =>
      obtain ⟨c, hc, rfl, HT, hbl⟩ := hrel
      by_cases hlt : c < n1
      · obtain ⟨b1, o1, rfl, hb1, p0, p1⟩ := R1.out.rn hlt
        obtain ⟨b2, o2, rfl, hb2, q0, q1⟩ := R2.out.rn hlt
        have p0' := (hbl.cell (p := ⟨b1, o1 + c * 2, none⟩) hb1).trans p0
        have p1' := (hbl.cell (p := ⟨b1, o1 + c * 2 + 1, none⟩) hb1).trans p1
        have q0' := (hbl.cell (p := ⟨b2, o2 + c * 2, none⟩) hb2).trans q0
        have q1' := (hbl.cell (p := ⟨b2, o2 + c * 2 + 1, none⟩) hb2).trans q1
        clear p0 p1 q0 q1
        have hlt' : (c : Int) < (n1 : Int) := by omega
        have h0 : (0 : Int) ≤ (c : Int) := by omega
        generalize hx : xs.getD c (0, 0) = x at *
        generalize hy : ys.getD c (0, 0) = y at *
        obtain ⟨x1, x2⟩ := x
        obtain ⟨y1, y2⟩ := y
        have HX := Lib.hid hx
        have HY := Lib.hid hy
        clear hx hy
        rcases (by
          rcases Decidable.em (x1 = y1) with e1 | e1
          · rcases Decidable.em (x2 = y2) with e2 | e2
            · exact .inl ⟨e1, e2⟩
            · exact .inr (.inr ⟨e1, e2⟩)
          · exact .inr (.inl e1) : (x1 = y1 ∧ x2 = y2) ∨ x1 ≠ y1 ∨ (x1 = y1 ∧ x2 ≠ y2)) with ⟨rfl, rfl⟩ | e1 | ⟨rfl, e2⟩
        · go_wp2_with fail
          go_quiet (fail)
          go_wp2_with fail
          go_roundw
          case rel =>
            refine ⟨c + 1, by omega, by go_num, Lib.hid ?_, below_drewN hbl _⟩
            rw [take_getD xs c (0, 0) (by rw [L1.out]; exact hlt), take_getD ys c (0, 0) (by rw [L2.out]; exact hlt), HX.out, HY.out, HT.out]
          case measure => simp [intOf]; omega
        · have q1 : (x1 == y1) = false := by simpa using e1
          have E := Lib.hid e1
          clear e1
          go_wp2_with fail
          go_quiet (fail)
          go_wp2_with fail
          go_ret
          refine ⟨ret_bool ?_, below_drewN hbl _⟩
          symm
          rw [decide_eq_false_iff_not]
          intro h
          rw [h] at HX
          have := HX.out.symm.trans HY.out
          exact E.out (by injection this)
        · have q1 : (x2 == y2) = false := by simpa using e2
          have E := Lib.hid e2
          clear e2
          go_wp2_with fail
          go_quiet (fail)
          go_wp2_with fail
          go_ret
          refine ⟨ret_bool ?_, below_drewN hbl _⟩
          symm
          rw [decide_eq_false_iff_not]
          intro h
          rw [h] at HX
          have := HX.out.symm.trans HY.out
          simp at this
          exact E.out this
      · obtain rfl : c = n1 := by omega
        go_wp2_with fail
        go_ret
        refine ⟨ret_bool ?_, hbl⟩
        symm
        rw [decide_eq_true_iff]
        have h := HT.out
        rw [List.take_of_length_le (by rw [L1.out]; omega), List.take_of_length_le (by rw [L2.out]; omega)] at h
        exact h
  · have hne : ((n1 : Int) != (n2 : Int)) = true := by simp; omega
    have HN := Lib.hid hn
    have L1 := Lib.hid l1
    have L2 := Lib.hid l2
    clear hn r1 r2 l1 l2
    go_enter Try.func13, Try.ntmps13
    go_wp2_with fail
    go_ret
    refine ⟨ret_bool ?_, Below.refl _ _⟩
    symm
    rw [decide_eq_false_iff_not]
    intro h
    exact HN.out (by rw [← L1.out, ← L2.out, h])
end Go.Proofs.Ytpkbmdibiefbdaa
