/- A step of a script of layer 2, whatever it does. -/
import Derived.Test.YtehicgndccnopaaRaC
import Derived.Laws.OwnMore
namespace Go.Proofs.Ytehicgndccnopaa
open Go.RowKit
set_option linter.unusedVariables false
set_option linter.unusedSimpArgs false

set_option maxRecDepth 100000 in
set_option maxHeartbeats 4000000 in
theorem does_words (W w : World) (bs br rb : Nat) (rs : List Value) (v : Value) (ws : List Int) (c : Nat) (h : Duo W w bs br rb rs v ws c ws c) (hc : c ≤ 900000000000)
    (at_ to n x : Int) (a0 : -9223372036854775808 ≤ at_) (a1 : at_ ≤ 9223372036854775807) (t0 : -9223372036854775808 ≤ to) (t1 : to ≤ 9223372036854775807) (n0 : -9223372036854775808 ≤ n) (n1 : n ≤ 9223372036854775807) :
    Calls Try.prog 40 #[.pointer (some ⟨bs, 0, none⟩), .pointer (some ⟨rb, 0, none⟩), .agg #[.int .i64 4, .int .i64 at_, .int .i64 to, .int .i64 n, .int .u64 x]] w (GivesDoes W bs br rb rs ws c) := by
  have H := Lib.hid h
  have hz := h.b.size
  have A0 := Lib.hid a0
  have A1 := Lib.hid a1
  have T0 := Lib.hid t0
  have T1 := Lib.hid t1
  have N0 := Lib.hid n0
  have N1 := Lib.hid n1
  have X0 := Lib.hid (Blk.new w 61 #[.int .i64 4, .int .i64 at_, .int .i64 to, .int .i64 n, .int .u64 x])
  have P0 := Lib.hid (h.nx ((Below.refl _ w).alloc (Nat.le_refl _) (.cells #[.int .i64 4, .int .i64 at_, .int .i64 to, .int .i64 n, .int .u64 x] 61)))
  have hlen := h.a.hi
  clear h a0 a1 t0 t1 n0 n1
  obtain ⟨k0, k1, k2, k3, k4⟩ := c5 X0.out
  go_enter Try.func40, Try.ntmps40
  go_wp2_with fail
  refine (words_any _ bs br ws rs c P0.out.a at_ n A0.out A1.out N0.out N1.out).mono ?_
  rintro e w1 ⟨v1, rfl, hown1, hb1⟩
  have C1 := Lib.hid hb1
  have hz1 := hb1.size
  have D1 := Lib.hid (P0.out.nx hb1)
  obtain ⟨k0, k1, k2, k3, k4⟩ := c5 (X0.out.nx hb1)
  have O1 := Lib.hid hown1
  clear hown1 hb1
  go_wp2_with fail
  refine (rwordsA_any _ W.heap.size rb v ws c D1.out.r at_ n A0.out A1.out N0.out N1.out).mono ?_
  rintro e w2 ⟨v2, rfl, hown2, hb2⟩
  have C2 := Lib.hid (bnext C1.out hb2)
  have hwl : (woL ws at_ n).length ≤ 65536 := by
    unfold woL
    split
    · rename_i hh
      have := hasE_yes hh
      simp
      omega
    · simp
  have O1' := Lib.hid (own_nx2 O1.out hb2)
  obtain ⟨A1', c1', hv1, _⟩ := own_form2' O1'.out
  obtain ⟨A2', c2', hv2, _⟩ := own_form2' hown2
  rw [hv1] at O1' ⊢
  rw [hv2] at hown2 ⊢
  have O2 := Lib.hid hown2
  generalize woL ws at_ n = L at *
  generalize hasE ws.length at_ n = q at *
  have r1 : (q == q) = true := by simp
  generalize hLn : L.length = M at *
  have HLn := Lib.hid hLn
  clear hown2 hb2 hv1 hv2 k0 k1 k2 k3 k4 hLn O1 C1
  go_wp2_with fail
  refine (same2_any _ A1' A2' M c1' M c2' L L (Reads.of_own O1'.out) (Reads.of_own O2.out) (by omega) (by omega)).mono ?_
  rintro e w3 ⟨rfl, hb3⟩
  rw [show decide (L = L) = true by simp]
  have C3 := Lib.hid (bnext C2.out hb3)
  have O3 := Lib.hid (own_nx2 O1'.out hb3)
  clear hb3
  go_wp2_with fail
  go_loopw [16] (fun i wr => ∃ (j : Nat) (xs : List Value), j ≤ M ∧ i = .int .i64 (j : Int) ∧ wr.ownsRow (w.alloc (.cells #[.int .i64 4, .int .i64 at_, .int .i64 to, .int .i64 n, .int .u64 x] 61)).heap.size 22 1 (.slice A1' M c1') M xs ∧ Below (w.alloc (.cells #[.int .i64 4, .int .i64 at_, .int .i64 to, .int .i64 n, .int .u64 x] 61)).heap.size (w.alloc (.cells #[.int .i64 4, .int .i64 at_, .int .i64 to, .int .i64 n, .int .u64 x] 61)) wr) (fun i _ => M - (intOf i).toNat)
  case atStart => exact ⟨0, _, by omega, rfl, O3.out, C3.out⟩
  case round =>
    obtain ⟨j, xs, hj, rfl, how, hbj⟩ := hrel
    by_cases hjl : j < M
    · obtain ⟨gA, rsA, hvA, hgA, _⟩ := own_blk how (by omega)
      injection hvA with hA1 hA2 hA3
      subst hA1
      have hx : xs.length = M := by simpa using how.1
      obtain ⟨u0, k0⟩ : ∃ u, wr.cell? ⟨gA, j, none⟩ = some u := ⟨xs[j]'(by omega), by rw [how.cellAt j (by omega)]; exact List.getElem?_eq_getElem _⟩
      have f0 := how.frozenAt j
      have HO := Lib.hid how
      have HBJ := Lib.hid hbj
      clear how hbj hx hA3
      go_wp2_with fail
      go_roundw
      case rel => exact ⟨j + 1, _, by omega, by go_num, (HO.out.stored j (.int .u64 77)).1, HBJ.out.setCell (p := ⟨gA, j, none⟩) hgA _⟩
      case measure => simp [intOf]; omega
    · obtain rfl : j = M := by omega
      have HBJ := Lib.hid hbj
      clear how hbj
      go_wp2_with fail
      go_ret
      exact ⟨rfl, v, ws, c, P0.out.nx HBJ.out, rfl, by omega⟩

set_option maxRecDepth 100000 in
set_option maxHeartbeats 4000000 in
theorem does_other (W w : World) (bs br rb : Nat) (rs : List Value) (v : Value) (ws : List Int) (c : Nat) (h : Duo W w bs br rb rs v ws c ws c) (hc : c ≤ 900000000000)
    (dd at_ to n x : Int) (d0 : dd ≠ 0) (d1 : dd ≠ 1) (d2 : dd ≠ 2) (d3 : dd ≠ 3) (d4 : dd ≠ 4) (a0 : -9223372036854775808 ≤ at_) (a1 : at_ ≤ 9223372036854775807) (t0 : -9223372036854775808 ≤ to) (t1 : to ≤ 9223372036854775807) (n0 : -9223372036854775808 ≤ n) (n1 : n ≤ 9223372036854775807) :
    Calls Try.prog 40 #[.pointer (some ⟨bs, 0, none⟩), .pointer (some ⟨rb, 0, none⟩), .agg #[.int .i64 dd, .int .i64 at_, .int .i64 to, .int .i64 n, .int .u64 x]] w (GivesDoes W bs br rb rs ws c) := by
  have H := Lib.hid h
  have hz := h.b.size
  have A0 := Lib.hid a0
  have A1 := Lib.hid a1
  have T0 := Lib.hid t0
  have T1 := Lib.hid t1
  have N0 := Lib.hid n0
  have N1 := Lib.hid n1
  have X0 := Lib.hid (Blk.new w 61 #[.int .i64 dd, .int .i64 at_, .int .i64 to, .int .i64 n, .int .u64 x])
  have P0 := Lib.hid (h.nx ((Below.refl _ w).alloc (Nat.le_refl _) (.cells #[.int .i64 dd, .int .i64 at_, .int .i64 to, .int .i64 n, .int .u64 x] 61)))
  have hlen := h.a.hi
  clear h a0 a1 t0 t1 n0 n1
  have t0 : (dd == 0) = false := by simpa using d0
  have t1 : (dd == 1) = false := by simpa using d1
  have t2 : (dd == 2) = false := by simpa using d2
  have t3 : (dd == 3) = false := by simpa using d3
  have t4 : (dd == 4) = false := by simpa using d4
  obtain ⟨k0, k1, k2, k3, k4⟩ := c5 X0.out
  clear d0 d1 d2 d3 d4
  go_enter Try.func40, Try.ntmps40
  go_wp2_with fail
  go_ret
  exact ⟨rfl, v, ws, c, P0.out, rfl, by omega⟩

theorem does_any (W w : World) (bs br rb : Nat) (rs : List Value) (v : Value) (ws : List Int) (c : Nat) (h : Duo W w bs br rb rs v ws c ws c) (hc : c ≤ 900000000000)
    (dd at_ to n x : Int) (a0 : -9223372036854775808 ≤ at_) (a1 : at_ ≤ 9223372036854775807) (t0 : -9223372036854775808 ≤ to) (t1 : to ≤ 9223372036854775807) (n0 : -9223372036854775808 ≤ n) (n1 : n ≤ 9223372036854775807) :
    Calls Try.prog 40 #[.pointer (some ⟨bs, 0, none⟩), .pointer (some ⟨rb, 0, none⟩), .agg #[.int .i64 dd, .int .i64 at_, .int .i64 to, .int .i64 n, .int .u64 x]] w (GivesDoes W bs br rb rs ws c) := by
  by_cases d0 : dd = 0
  · subst d0; exact does_load W w bs br rb rs v ws c h hc at_ to n x a0 a1 t0 t1 n0 n1
  by_cases d1 : dd = 1
  · subst d1; exact does_store W w bs br rb rs v ws c h hc at_ to n x a0 a1 t0 t1 n0 n1
  by_cases d2 : dd = 2
  · subst d2; exact does_move W w bs br rb rs v ws c h hc at_ to n x a0 a1 t0 t1 n0 n1
  by_cases d3 : dd = 3
  · subst d3; exact does_fill W w bs br rb rs v ws c h hc at_ to n x a0 a1 t0 t1 n0 n1
  by_cases d4 : dd = 4
  · subst d4; exact does_words W w bs br rb rs v ws c h hc at_ to n x a0 a1 t0 t1 n0 n1
  · exact does_other W w bs br rb rs v ws c h hc dd at_ to n x d0 d1 d2 d3 d4 a0 a1 t0 t1 n0 n1

/-! The law's own Same. -/
set_option maxRecDepth 100000 in
set_option maxHeartbeats 4000000 in
theorem sameA_any (W w : World) (bs br rb : Nat) (rs : List Value) (v : Value) (ws : List Int) (c : Nat) (h : Duo W w bs br rb rs v ws c ws c) :
    Calls Try.prog 41 #[.pointer (some ⟨bs, 0, none⟩), .pointer (some ⟨rb, 0, none⟩)] w fun e w' => e = .returned (.bool true) ∧ Below w.heap.size w w' := by
  have H := Lib.hid h
  have hlen := h.a.hi
  have hlo := h.a.lo
  have hw0 := Lib.hid (show hasE ws.length 0 (ws.length : Int) = 0 by simp [hasE])
  have hw1 := Lib.hid (show woL ws 0 (ws.length : Int) = ws by simp [woL, hw0.out])
  clear h
  go_enter Try.func41, Try.ntmps41
  go_wp2_with fail
  refine (len_any _ bs br ws rs c H.out.a).mono ?_
  rintro e w' ⟨rfl, rfl⟩
  go_wp2_with fail
  refine (words_any _ bs br ws rs c H.out.a 0 (ws.length : Int) (by omega) (by omega) (by omega) (by omega)).mono ?_
  rintro e w1 ⟨v1, rfl, hown1, hb1⟩
  rw [hw0.out]
  rw [hw1.out] at hown1
  obtain ⟨A1, c1, hv1, _⟩ := own_form2' hown1
  rw [hv1] at hown1 ⊢
  have D1 := Lib.hid (H.out.nx hb1)
  have R1 := Lib.hid (Reads.of_own hown1)
  have B1 := Lib.hid hb1
  obtain ⟨A2, c2, hv2, _⟩ := own_form2' D1.out.r.r
  have hs := D1.out.r.s
  rw [hv2] at hs
  have S1 := Lib.hid hs
  have R2 := Lib.hid (Reads.of_own (show w1.ownsRow W.heap.size 22 1 (.slice A2 ws.length c2) ws.length (ws.map (Value.int .u64)) by rw [← hv2]; exact D1.out.r.r))
  obtain ⟨k0, k1⟩ := hs.c2
  have FA := Lib.hid (fun X (hX : Below w1.heap.size w1 X) => same2_any X A1 A2 ws.length c1 ws.length c2 ws ws ((R1.out.below hX).more hX.size) ((R2.out.below hX).more hX.size) (by omega) (by omega))
  have FB := Lib.hid (fun X (hX : Below w1.heap.size w1 X) => writes_any X bs br ws rs c (D1.out.nx hX).a)
  rw [show decide (ws = ws) = true by simp] at FA
  have BR := Lib.hid (show Below w1.heap.size w1 w1.drew from (Below.refl _ w1).drew)
  have r1 : ((c : Int) == (c : Int)) = true := by simp
  clear hown1 hb1 hs hv1 hv2 hw0 hw1
  generalize ws.length = M at *
  go_wp2_with fail
  go_region_held3 (fun w' => w'.cell? ⟨rb, 0, none⟩ = some (.slice A2 M c2) ∧ w'.cell? ⟨rb, 1, none⟩ = some (.int .u64 (c : Int))) (go_keep)
    (first
      | (go_at_call 32; refine (FA.out _ BR.out).mono ?_; rintro e wx ⟨rfl, hb⟩; have BA := Lib.hid (bnext BR.out hb); obtain ⟨k0, k1⟩ := (S1.out.nx BA.out).c2)
      | (go_at_call 33; refine (FB.out _ BA.out).mono ?_; rintro e w' ⟨rfl, rfl⟩))
  all_goals
    go_wp2_with fail
    go_ret
    exact ⟨rfl, bnext B1.out BA.out⟩
end Go.Proofs.Ytehicgndccnopaa
