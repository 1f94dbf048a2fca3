/- Runs: First. -/
import Derived.Test.YtpkbmdibiefbdaaRnH
namespace Go.Proofs.Ytpkbmdibiefbdaa
open Go.RowKit Go.Shelf
set_option linter.unusedVariables false
set_option linter.unusedSimpArgs false

attribute [local go_sem] Oper.semAt_some

/-- Has a run k numbers from fr on? -/
def frB (r : Rn) (k fr : Int) : Bool := decide (max r.1 fr < r.1 + r.2 ∧ k ≤ r.1 + r.2 - max r.1 fr)

theorem first_low (w : World) (sb : Option Addr) (k fr : Int) (hk : k < 1) :
    Calls Try.prog 14 #[.pointer sb, .int .i64 k, .int .i64 fr] w fun e W' => e = .returned (.tuple #[.agg #[.int .i64 0, .int .i64 0], .bool false]) ∧ Below w.heap.size w W' := by
  have b2 := Blk.new_at ((w.alloc (.cells #[.int .i64 k] 3)).alloc (.cells #[.int .i64 fr] 3)) (w.heap.size + 1 + 1) 24 #[.int .i64 0, .int .i64 0] (by simp)
  have b3 := Blk.new_at (((w.alloc (.cells #[.int .i64 k] 3)).alloc (.cells #[.int .i64 fr] 3)).alloc (.cells #[.int .i64 0, .int .i64 0] 24)) (w.heap.size + 1 + 1 + 1) 4 #[.bool false] (by simp)
  have b4 := b2.alloc (.cells #[.bool false] 4)
  go_enter Try.func14, Try.ntmps14
  go_wp2_with fail
  have hB : Below w.heap.size w ((((w.alloc (.cells #[.int .i64 k] 3)).alloc (.cells #[.int .i64 fr] 3)).alloc (.cells #[.int .i64 0, .int .i64 0] 24)).alloc (.cells #[.bool false] 4)) := balloc (balloc (balloc (balloc (Below.refl _ w) _) _) _) _
  obtain ⟨c0, c1⟩ := b4.c2
  have c2 := b3.c1
  clear b2 b3 b4
  generalize ((((w.alloc (.cells #[.int .i64 k] 3)).alloc (.cells #[.int .i64 fr] 3)).alloc (.cells #[.int .i64 0, .int .i64 0] 24)).alloc (.cells #[.bool false] 4)) = W0 at *
  exact bodyPost_ret (v := .tuple #[.agg #[.int .i64 0, .int .i64 0], .bool false]) (by simp [results, Try.results14, go_sem, c0, c1, c2]) rfl ⟨rfl, hB⟩

set_option maxRecDepth 100000 in
set_option maxHeartbeats 4000000 in
theorem first_any (w : World) (B sb : Nat) (rs : List Rn) (h : IsSet w B sb rs) (k fr : Int) (i0 : -9223372036854775808 ≤ fr) (i1 : fr ≤ 9223372036854775807) (j0 : -9223372036854775808 ≤ k) (j1 : k ≤ 9223372036854775807) :
    Calls Try.prog 14 #[.pointer (some ⟨sb, 0, none⟩), .int .i64 k, .int .i64 fr] w fun e W' => ∃ x : Rn, ∃ b : Bool, e = .returned (.tuple #[.agg #[.int .i64 x.1, .int .i64 x.2], .bool b]) ∧
      ((b = true ∧ 1 ≤ k ∧ ∃ r ∈ rs, frB r k fr = true ∧ x = (max r.1 fr, k)) ∨ (b = false ∧ x = (0, 0) ∧ (k < 1 ∨ ∀ r ∈ rs, frB r k fr = false))) ∧ Below w.heap.size w W' := by
  by_cases hk1 : k < 1
  · refine (first_low w (some ⟨sb, 0, none⟩) k fr hk1).mono ?_
    rintro e w' ⟨rfl, hb⟩
    exact ⟨(0, 0), false, rfl, .inr ⟨rfl, rfl, .inl hk1⟩, hb⟩
  obtain ⟨ch, hr, he, _, hg⟩ := h
  have hl := ch_len he
  refine (callsIn_wide (n := 3)).1 ?_
  refine callsIn_of_wp_marks Try.func14 rfl trivial ?_ rfl
  simp only [Try.ntmps14, List.size_toArray, List.length_cons, List.length_nil, Nat.reduceAdd, Nat.reduceSub, Array.replicate_succ, Array.replicate_zero, List.push_toArray, List.append_toArray, List.nil_append, List.cons_append]
  gi_wp2_with (refine ⟨trivial, ?_⟩; gi_at_call 22; refine (callsIn_wide.2 (nodes_any _ _)).mono ?_; rintro e w' ⟨rfl, rfl⟩)
  obtain ⟨W0, hW0⟩ : ∃ W0, (((((w.alloc (.cells #[.int .i64 k] 3)).alloc (.cells #[.int .i64 fr] 3)).alloc (.cells #[.int .i64 0, .int .i64 0] 24)).alloc (.cells #[.bool false] 4)).alloc (.cells #[.pointer (some ⟨sb, 0, none⟩)] 26)) = W0 := ⟨_, rfl⟩
  have b0 : Blk W0 w.heap.size 3 #[.int .i64 k] := by rw [← hW0]; exact ((((Blk.new _ _ _).alloc _).alloc _).alloc _).alloc _
  have b1 : Blk W0 (w.heap.size + 1) 3 #[.int .i64 fr] := by rw [← hW0]; exact (((Blk.new_at _ _ _ _ (by simp)).alloc _).alloc _).alloc _
  have b2 : Blk W0 (w.heap.size + 1 + 1) 24 #[.int .i64 0, .int .i64 0] := by rw [← hW0]; exact ((Blk.new_at _ _ _ _ (by simp)).alloc _).alloc _
  have b3 : Blk W0 (w.heap.size + 1 + 1 + 1) 4 #[.bool false] := by rw [← hW0]; exact (Blk.new_at _ _ _ _ (by simp)).alloc _
  have b4 : Blk W0 (w.heap.size + 1 + 1 + 1 + 1) 26 #[.pointer (some ⟨sb, 0, none⟩)] := by rw [← hW0]; exact Blk.new_at _ _ _ _ (by simp)
  have hB0 : Below w.heap.size w W0 := by rw [← hW0]; exact balloc (balloc (balloc (balloc (balloc (Below.refl _ w) _) _) _) _) _
  rw [hW0]
  have hs0 : W0.heap.size = w.heap.size + 5 := by rw [← hW0]; simp
  clear hW0
  refine wpIn_rangeFunc_ownG (F := Fence.wide) rfl (by omega) (gf := 29) (lb := #[.pointer (some ⟨w.heap.size + 1 + 1 + 1 + 1, 0, none⟩)]) rfl trivial (enters_of Try.func29 (by kernel_rfl) rfl)
    (nodes_seq w W0 sb _ ch hr b4 hB0)
    (fun h k => h.t k) (kpN_b hB0.size) (Below.refl _ _) (fun _ => rfl)
    (fun pre W => (∀ x ∈ pre, frB (rs.getD x.val (0, 0)) k fr = false) ∧ Blk W w.heap.size 3 #[.int .i64 k] ∧ Blk W (w.heap.size + 1) 3 #[.int .i64 fr] ∧ Blk W (w.heap.size + 1 + 1) 24 #[.int .i64 0, .int .i64 0] ∧ Blk W (w.heap.size + 1 + 1 + 1) 4 #[.bool false] ∧ Below w.heap.size w W)
    (fun c pre W => c = .ret ∧ ∃ x : Rn, (∃ r ∈ rs, frB r k fr = true ∧ x = (max r.1 fr, k)) ∧ Blk W (w.heap.size + 1 + 1) 24 #[.int .i64 x.1, .int .i64 x.2] ∧ Blk W (w.heap.size + 1 + 1 + 1) 4 #[.bool true] ∧ Below w.heap.size w W)
    ((pure_own _ _).and ((Own.from (blk_own _ _ _) _).and ((Own.from (blk_own _ _ _) _).and ((Own.from (blk_own _ _ _) _).and ((Own.from (blk_own _ _ _) _).and (ownFrom_below (Nat.le_refl _) hB0.size))))))
    (fun c => (pure_own _ (fun _ => c = .ret)).and (ex_own fun x => (pure_own _ (fun _ => ∃ r ∈ rs, frB r k fr = true ∧ x = (max r.1 fr, k))).and ((Own.from (blk_own _ _ _) _).and ((Own.from (blk_own _ _ _) _).and (ownFrom_below (Nat.le_refl _) hB0.size)))))
    ⟨fun _ h => (by cases h), b0, b1, b2, b3, hB0⟩
    (fun y => { tmps := #[.pointer (some ⟨sb, 0, none⟩), .int .i64 k, .int .i64 fr, undef, .pointer (some ⟨w.heap.size, 0, none⟩), .pointer (some ⟨w.heap.size + 1, 0, none⟩), .pointer (some ⟨w.heap.size + 1 + 1, 0, none⟩), .pointer (some ⟨w.heap.size + 1 + 1 + 1, 0, none⟩), undef, .pointer (some ⟨ndB ch (y.val + 1), 0, none⟩), undef, .int .i64 k, .bool false, undef, .pointer (some ⟨sb, 0, none⟩), .func (.func 29) #[] #[.pointer (some ⟨w.heap.size + 1 + 1 + 1 + 1, 0, none⟩)], .pointer (some ⟨ndB ch y.val, 0, none⟩), .pointer (some ⟨ndB ch (y.val + 1), 0, none⟩), undef, undef, undef, undef, undef, undef, undef, undef, undef, undef, undef, undef, undef, undef, undef, undef, undef, undef, undef, undef, undef, undef, undef, undef, undef, undef, undef, undef, undef, undef, undef, undef, undef, undef, undef, undef, undef, undef, undef, undef, undef], defers := [] }) ?assign ?body ?done ?stop
  case assign =>
    intro l y W K hK
    gi_wp2
    exact hK
  case body =>
    rintro l pre y W ⟨hp, kk, k0, k1, k2, hB⟩ hlt
    have hy : y.val < rs.length := by have := y.isLt; omega
    have hnd := ((hr.nx hB).c.nd (y.val + 1) (by omega))
    have hmem := rs_mem hy
    rw [ch_nd he y.val hy] at hnd
    have hbd := good_bd hg hmem
    have hY := Lib.hid (show ∀ x ∈ pre ++ [y], frB (rs.getD y.val (0, 0)) k fr = false → frB (rs.getD x.val (0, 0)) k fr = false from fun x hx h => by
      rcases List.mem_append.1 hx with hx | hx
      · exact hp x hx
      · simp at hx; subst hx; exact h)
    have hR := Lib.hid (show frB (rs.getD y.val (0, 0)) k fr = decide (max (rs.getD y.val (0, 0)).1 fr < (rs.getD y.val (0, 0)).1 + (rs.getD y.val (0, 0)).2 ∧ k ≤ (rs.getD y.val (0, 0)).1 + (rs.getD y.val (0, 0)).2 - max (rs.getD y.val (0, 0)).1 fr) from rfl)
    have hM := Lib.hid hmem
    clear hmem hp
    generalize rs.getD y.val (0, 0) = n at *
    obtain ⟨nA, nL⟩ := n
    dsimp only at hnd hbd hR
    obtain ⟨c0, c1, c2⟩ := hnd.c3
    have d0 := k0.c1
    have dk := kk.c1
    obtain ⟨d1, d2⟩ := k1.c2
    have d3 := k2.c1
    have f1 := k1.frozen 0
    have f2 := k1.frozen 1
    have f3 := k2.frozen 0
    have hmx : Try.prog.follows .mixedOrders = true := by kernel_rfl
    have HG := Lib.hid hg
    have HL := Lib.hid hl
    have HE := Lib.hid he
    clear hg hl he hnd hy hlt
    have e1 : wrap64 (nA + nL) = nA + nL := by simp [wrap64]; omega
    have e2 : IntKind.i64.wrap (nA + nL) = nA + nL := by simp [IntKind.wrap, IntKind.signed, IntKind.bits]; omega
    obtain ⟨m, hm⟩ : ∃ m, max nA fr = m := ⟨_, rfl⟩
    have hif : (if nA < fr then fr else nA) = m := by rw [← hm]; split <;> omega
    have hm0 : nA ≤ m := by omega
    rw [hm] at hR
    have HM := Lib.hid hm
    clear hm
    gi_wp2_with fail
    refine wpIn_region_quiet_round hmx (by kernel_rfl) (by kernel_rfl) ?_
    repeat (gi_big_quiet_step (fail))
    refine wpQuietIn_nil ?_
    rintro _ ⟨nq, rfl⟩
    clear hif
    by_cases q1 : m < nA + nL
    · have e3 : wrap64 (nA + nL - m) = nA + nL - m := by simp [wrap64]; omega
      have e4 : IntKind.i64.wrap (nA + nL - m) = nA + nL - m := by simp [IntKind.wrap, IntKind.signed, IntKind.bits]; omega
      by_cases q2 : k ≤ nA + nL - m
      · have hRR := Lib.hid (show frB (nA, nL) k fr = true by rw [hR.out]; simp; omega)
        clear hbd hm0
        gi_wp2_with fail
        refine wpIn_region_quiet_round hmx (by kernel_rfl) (by kernel_rfl) ?_
        repeat (gi_big_quiet_step (fail))
        refine wpQuietIn_nil ?_
        rintro _ ⟨nr, rfl⟩
        gi_wp2_with fail
        have z1 := ((k1.drewN (nq + nr)).set_ 0 (.int .i64 m)).set_ 1 (.int .i64 k)
        have z2 := ((k2.drewN (nq + nr)).far (p := ⟨w.heap.size + 1 + 1, 0, none⟩) (by simp) (.int .i64 m)).far (p := ⟨w.heap.size + 1 + 1, 1, none⟩) (by simp) (.int .i64 k)
        have hB2 := (((bdrewN hB (nq + nr)).setCell (p := ⟨w.heap.size + 1 + 1, 0, none⟩) (by simp; omega) (.int .i64 m)).setCell (p := ⟨w.heap.size + 1 + 1, 1, none⟩) (by simp; omega) (.int .i64 k)).setCell (p := ⟨w.heap.size + 1 + 1 + 1, 0, none⟩) (by simp; omega) (.bool true)
        have hk : KeepsFrom W0.heap.size W (W.drewN (nq + nr)) := ⟨Nat.le_refl _, fun _ _ _ h _ => h⟩
        exact ⟨hk.trans ((((KeepsOthers.setCell _ _ _).trans (KeepsOthers.setCell _ _ _)).trans (KeepsOthers.setCell _ _ _)).from _), rfl, (m, k), ⟨_, hM.out, hRR.out, by rw [HM.out]⟩, z1.far (p := ⟨w.heap.size + 1 + 1 + 1, 0, none⟩) (by simp) _, z2.set_ 0 _, hB2⟩
      · have hRR := Lib.hid (show frB (nA, nL) k fr = false by rw [hR.out]; simp; omega)
        clear hbd hm0
        gi_wp2_with fail
        refine wpIn_region_quiet_round hmx (by kernel_rfl) (by kernel_rfl) ?_
        repeat (gi_big_quiet_step (fail))
        refine wpQuietIn_nil ?_
        rintro _ ⟨nr, rfl⟩
        gi_wp2_with fail
        exact ⟨⟨Nat.le_refl _, fun _ _ _ h _ => h⟩, ⟨bdrewN (bdrewN (Below.refl _ _) _) _, fun _ _ h => h⟩, fun x hx => hY.out x hx hRR.out, kk, k0, k1, k2, bdrewN (bdrewN hB _) _⟩
    · have hRR := Lib.hid (show frB (nA, nL) k fr = false by rw [hR.out]; simp; omega)
      have d1 : decide (m < nA + nL) = false := by simpa using q1
      clear hbd hm0
      gi_wp2_with fail
      refine wpIn_region_quiet_round hmx (by kernel_rfl) (by kernel_rfl) ?_
      repeat (gi_big_quiet_step (fail))
      refine wpQuietIn_nil ?_
      rintro _ ⟨nr, rfl⟩
      gi_wp2_with fail
      exact ⟨⟨Nat.le_refl _, fun _ _ _ h _ => h⟩, ⟨bdrewN (bdrewN (Below.refl _ _) _) _, fun _ _ h => h⟩, fun x hx => hY.out x hx hRR.out, kk, k0, k1, k2, bdrewN (bdrewN hB _) _⟩
  case done =>
    rintro D ys W hD rfl ⟨hp, kk, k0, k1, k2, hB⟩ hK
    obtain ⟨d1, d2⟩ := k1.c2
    have d3 := k2.c1
    have f1 := k1.frozen 0
    have f2 := k1.frozen 1
    have f3 := k2.frozen 0
    gi_wp2_with fail
    have j1 : Blk (((W.setCell ⟨w.heap.size + 1 + 1, 0, none⟩ (.int .i64 0)).setCell ⟨w.heap.size + 1 + 1, 1, none⟩ (.int .i64 0)).setCell ⟨w.heap.size + 1 + 1 + 1, 0, none⟩ (.bool false)) (w.heap.size + 1 + 1) 24 #[.int .i64 0, .int .i64 0] := ((k1.set_ 0 (.int .i64 0)).set_ 1 (.int .i64 0)).far (p := ⟨w.heap.size + 1 + 1 + 1, 0, none⟩) (by simp) _
    have j2 : Blk (((W.setCell ⟨w.heap.size + 1 + 1, 0, none⟩ (.int .i64 0)).setCell ⟨w.heap.size + 1 + 1, 1, none⟩ (.int .i64 0)).setCell ⟨w.heap.size + 1 + 1 + 1, 0, none⟩ (.bool false)) (w.heap.size + 1 + 1 + 1) 4 #[.bool false] := ((k2.far (p := ⟨w.heap.size + 1 + 1, 0, none⟩) (by simp) _).far (p := ⟨w.heap.size + 1 + 1, 1, none⟩) (by simp) _).set_ 0 _
    have hB2 := ((hB.setCell (p := ⟨w.heap.size + 1 + 1, 0, none⟩) (by simp; omega) (.int .i64 0)).setCell (p := ⟨w.heap.size + 1 + 1, 1, none⟩) (by simp; omega) (.int .i64 0)).setCell (p := ⟨w.heap.size + 1 + 1 + 1, 0, none⟩) (by simp; omega) (.bool false)
    have hK2 := ((Below.heap_setCell ((W.setCell ⟨w.heap.size + 1 + 1, 0, none⟩ (.int .i64 0)).setCell ⟨w.heap.size + 1 + 1, 1, none⟩ (.int .i64 0)) ⟨w.heap.size + 1 + 1 + 1, 0, none⟩ (.bool false) D (by simp; omega)).trans ((Below.heap_setCell (W.setCell ⟨w.heap.size + 1 + 1, 0, none⟩ (.int .i64 0)) ⟨w.heap.size + 1 + 1, 1, none⟩ (.int .i64 0) D (by simp; omega)).trans (Below.heap_setCell W ⟨w.heap.size + 1 + 1, 0, none⟩ (.int .i64 0) D (by simp; omega)))).trans hK
    clear kk k0 k1 k2 hB hK d1 d2 d3 f1 f2 f3
    generalize (((W.setCell ⟨w.heap.size + 1 + 1, 0, none⟩ (.int .i64 0)).setCell ⟨w.heap.size + 1 + 1, 1, none⟩ (.int .i64 0)).setCell ⟨w.heap.size + 1 + 1 + 1, 0, none⟩ (.bool false)) = W2 at *
    obtain ⟨g1, g2⟩ := (blk_put (o := .deferred none) (D := D) j1 (by omega)).c2
    have g3 := (blk_put (o := .deferred none) (D := D) j2 (by omega)).c1
    refine ⟨by simp, .inl ⟨_, _, rfl, run_takeDeferred hK2, ?_⟩⟩
    refine ⟨.tuple #[.agg #[.int .i64 0, .int .i64 0], .bool false], by simp [results, Try.results14, go_sem, g1, g2, g3], (0, 0), false, rfl, .inr ⟨rfl, rfl, .inr fun r hr => ?_⟩, hB2.trans (belowK_b (w := w) (Nat.le_refl _) W2 D _ _ (by omega) hK2 rfl rfl)⟩
    obtain ⟨j, hj, rfl⟩ := List.getElem_of_mem hr
    have := hp ⟨j, by omega⟩ (chP_all ch _)
    simpa [List.getD, hj] using this
  case stop =>
    rintro D c pre W hD _ ⟨rfl, x, hx, k1, k2, hB⟩ hK
    gi_wp2_with fail
    obtain ⟨g1, g2⟩ := (blk_put (o := .deferred none) (D := D) k1 (by omega)).c2
    have g3 := (blk_put (o := .deferred none) (D := D) k2 (by omega)).c1
    refine ⟨by simp, .inl ⟨_, _, rfl, run_takeDeferred hK, ?_⟩⟩
    exact ⟨.tuple #[.agg #[.int .i64 x.1, .int .i64 x.2], .bool true], by simp [results, Try.results14, go_sem, g1, g2, g3], x, true, rfl, .inl ⟨rfl, by omega, hx⟩, hB.trans (belowK_b (w := w) (Nat.le_refl _) W D _ _ (by omega) hK rfl rfl)⟩
end Go.Proofs.Ytpkbmdibiefbdaa
