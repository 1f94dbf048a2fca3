/- Runs: what no set answers; Has; Total, by the runs. -/
import Derived.Test.YtpkbmdibiefbdaaRnJ
import Derived.Test.YtpkbmdibiefbdaaRnD
namespace Go.Proofs.Ytpkbmdibiefbdaa
open Go.RowKit Go.Shelf
set_option linter.unusedVariables false
set_option linter.unusedSimpArgs false

attribute [local go_sem] Oper.semAt_some

theorem nodes_seq_nil (w W0 : World) (Bn : Nat) (hBn : Blk W0 Bn 26 #[.pointer none]) :
    SeqStopsK Fence.wide 2 Try.prog 29 #[.pointer (some ⟨Bn, 0, none⟩)] (fun y : Fin 0 => #[.pointer none, .pointer none]) (KpN w.heap.size) (fun ys => ys = []) (fun _ => False) 0 W0 :=
  fun l J Jx W hW hJ _ hY h0 => (nodes1_nil_in _ l Bn J W (Blk.below hBn hW hBn.lt) h0).mono fun _ _ hh => ⟨hh.1, .inl ⟨[], rfl, hh.2⟩⟩

set_option maxRecDepth 100000 in
set_option maxHeartbeats 4000000 in
theorem of_nil (w : World) (i : Int) :
    Calls Try.prog 17 #[.pointer none, .int .i64 i] w fun e W' => e = .returned (.tuple #[.agg #[.int .i64 0, .int .i64 0], .bool false]) ∧ Below w.heap.size w W' := by
  refine (callsIn_wide (n := 3)).1 ?_
  refine callsIn_of_wp_marks Try.func17 rfl trivial ?_ rfl
  simp only [Try.ntmps17, List.size_toArray, List.length_cons, List.length_nil, Nat.reduceAdd, Nat.reduceSub, Array.replicate_succ, Array.replicate_zero, List.push_toArray, List.append_toArray, List.nil_append, List.cons_append]
  gi_wp2_with (refine ⟨trivial, ?_⟩; gi_at_call 22; refine (callsIn_wide.2 (nodes_any _ _)).mono ?_; rintro e w' ⟨rfl, rfl⟩)
  obtain ⟨W0, hW0, b0, b1, b2, b3, hB0, hs0⟩ : ∃ W0, ((((w.alloc (.cells #[.int .i64 i] 3)).alloc (.cells #[.int .i64 0, .int .i64 0] 24)).alloc (.cells #[.bool false] 4)).alloc (.cells #[.pointer none] 26)) = W0 ∧ Blk W0 (w.heap.size) 3 #[.int .i64 i] ∧ Blk W0 (w.heap.size + 1) 24 #[.int .i64 0, .int .i64 0] ∧ Blk W0 (w.heap.size + 1 + 1) 4 #[.bool false] ∧ Blk W0 (w.heap.size + 1 + 1 + 1) 26 #[.pointer none] ∧ Below w.heap.size w W0 ∧ W0.heap.size = w.heap.size + 4 := ⟨_, rfl, (((Blk.new w _ _).alloc _).alloc _).alloc _, ((Blk.new_at _ _ _ _ (by simp)).alloc _).alloc _, (Blk.new_at _ _ _ _ (by simp)).alloc _, Blk.new_at _ _ _ _ (by simp), balloc (balloc (balloc (balloc (Below.refl _ w) _) _) _) _, by simp⟩
  rw [hW0]
  clear hW0
  refine wpIn_rangeFunc_ownG (F := Fence.wide) rfl (by omega) (gf := 29) (lb := #[.pointer (some ⟨w.heap.size + 1 + 1 + 1, 0, none⟩)]) rfl trivial (enters_of Try.func29 (by kernel_rfl) rfl)
    (nodes_seq_nil w W0 _ b3)
    (fun h k => h.t k) (kpN_b hB0.size) (Below.refl _ _) (fun _ => rfl)
    (fun pre W => Blk W (w.heap.size) 3 #[.int .i64 i] ∧ Blk W (w.heap.size + 1) 24 #[.int .i64 0, .int .i64 0] ∧ Blk W (w.heap.size + 1 + 1) 4 #[.bool false] ∧ Below w.heap.size w W)
    (fun _ _ _ => False)
    ((Own.from (blk_own _ _ _) _).and ((Own.from (blk_own _ _ _) _).and ((Own.from (blk_own _ _ _) _).and (ownFrom_below (Nat.le_refl _) hB0.size))))
    (fun _ _ _ _ _ hs _ _ => hs)
    ⟨b0, b1, b2, hB0⟩
    (fun y => { tmps := #[.pointer none, .int .i64 i, undef, .pointer (some ⟨w.heap.size, 0, none⟩), .pointer (some ⟨w.heap.size + 1, 0, none⟩), .pointer (some ⟨w.heap.size + 1 + 1, 0, none⟩), undef, .pointer none, .pointer none, .func (.func 29) #[] #[.pointer (some ⟨w.heap.size + 1 + 1 + 1, 0, none⟩)], .pointer none, .pointer none, undef, undef, undef, undef, undef, undef, undef, undef, undef, undef, undef, undef, undef, undef, undef, undef, undef, undef, undef, undef, undef, undef, undef, undef, undef, undef, undef], defers := [] }) ?assign ?body ?done ?stop
  case assign =>
    intro l y W K hK
    gi_wp2
    exact hK
  case body =>
    rintro l pre y W _ _
    exact y.elim0
  case done =>
    rintro D ys W hD rfl ⟨k0, k1, k2, hB⟩ hK
    have c00 := k0.cell 0
    have f00 := k0.frozen 0
    replace c00 : W.cell? ⟨w.heap.size, 0, none⟩ = some (.int .i64 i) := c00
    have c10 := k1.cell 0
    have f10 := k1.frozen 0
    replace c10 : W.cell? ⟨w.heap.size + 1, 0, none⟩ = some (.int .i64 0) := c10
    have c11 := k1.cell 1
    have f11 := k1.frozen 1
    replace c11 : W.cell? ⟨w.heap.size + 1, 1, none⟩ = some (.int .i64 0) := c11
    have c20 := k2.cell 0
    have f20 := k2.frozen 0
    replace c20 : W.cell? ⟨w.heap.size + 1 + 1, 0, none⟩ = some (.bool false) := c20
    gi_wp2_with fail
    have j1 : Blk (((W.setCell ⟨w.heap.size + 1, 0, none⟩ (.int .i64 0)).setCell ⟨w.heap.size + 1, 1, none⟩ (.int .i64 0)).setCell ⟨w.heap.size + 1 + 1, 0, none⟩ (.bool false)) (w.heap.size + 1) 24 #[.int .i64 0, .int .i64 0] := (((k1).set_ 0 _).set_ 1 _).far (p := ⟨w.heap.size + 1 + 1, 0, none⟩) (by simp) _
    have j2 : Blk (((W.setCell ⟨w.heap.size + 1, 0, none⟩ (.int .i64 0)).setCell ⟨w.heap.size + 1, 1, none⟩ (.int .i64 0)).setCell ⟨w.heap.size + 1 + 1, 0, none⟩ (.bool false)) (w.heap.size + 1 + 1) 4 #[.bool false] := (((k2).far (p := ⟨w.heap.size + 1, 0, none⟩) (by simp) _).far (p := ⟨w.heap.size + 1, 1, none⟩) (by simp) _).set_ 0 _
    have hB2 : Below w.heap.size w (((W.setCell ⟨w.heap.size + 1, 0, none⟩ (.int .i64 0)).setCell ⟨w.heap.size + 1, 1, none⟩ (.int .i64 0)).setCell ⟨w.heap.size + 1 + 1, 0, none⟩ (.bool false)) := (((hB.setCell (p := ⟨w.heap.size + 1, 0, none⟩) (by simp; try omega) (.int .i64 0)).setCell (p := ⟨w.heap.size + 1, 1, none⟩) (by simp; try omega) (.int .i64 0)).setCell (p := ⟨w.heap.size + 1 + 1, 0, none⟩) (by simp; try omega) (.bool false))
    have hK2 : (((W.setCell ⟨w.heap.size + 1, 0, none⟩ (.int .i64 0)).setCell ⟨w.heap.size + 1, 1, none⟩ (.int .i64 0)).setCell ⟨w.heap.size + 1 + 1, 0, none⟩ (.bool false)).heap[D]? = some (.deferred (some [])) := ((Below.heap_setCell ((W.setCell ⟨w.heap.size + 1, 0, none⟩ (.int .i64 0)).setCell ⟨w.heap.size + 1, 1, none⟩ (.int .i64 0)) ⟨w.heap.size + 1 + 1, 0, none⟩ (.bool false) D (by simp; omega)).trans ((Below.heap_setCell (W.setCell ⟨w.heap.size + 1, 0, none⟩ (.int .i64 0)) ⟨w.heap.size + 1, 1, none⟩ (.int .i64 0) D (by simp; omega)).trans ((Below.heap_setCell W ⟨w.heap.size + 1, 0, none⟩ (.int .i64 0) D (by simp; omega)).trans hK)))
    generalize (((W.setCell ⟨w.heap.size + 1, 0, none⟩ (.int .i64 0)).setCell ⟨w.heap.size + 1, 1, none⟩ (.int .i64 0)).setCell ⟨w.heap.size + 1 + 1, 0, none⟩ (.bool false)) = W2 at *
    have g10 := (blk_put (o := .deferred none) (D := D) j1 (by omega)).cell 0
    replace g10 : (W2.putObj D (.deferred none)).cell? ⟨w.heap.size + 1, 0, none⟩ = some (.int .i64 0) := g10
    have g11 := (blk_put (o := .deferred none) (D := D) j1 (by omega)).cell 1
    replace g11 : (W2.putObj D (.deferred none)).cell? ⟨w.heap.size + 1, 1, none⟩ = some (.int .i64 0) := g11
    have g20 := (blk_put (o := .deferred none) (D := D) j2 (by omega)).cell 0
    replace g20 : (W2.putObj D (.deferred none)).cell? ⟨w.heap.size + 1 + 1, 0, none⟩ = some (.bool false) := g20
    refine ⟨by simp, .inl ⟨_, _, rfl, run_takeDeferred hK2, ?_⟩⟩
    exact ⟨.tuple #[.agg #[.int .i64 0, .int .i64 0], .bool false], by simp [results, Try.results17, go_sem, g10, g11, g20], rfl, hB2.trans (belowK_b (w := w) (Nat.le_refl _) W2 D _ _ (by omega) hK2 rfl rfl)⟩
  case stop =>
    rintro D c pre W _ h
    exact h.elim

set_option maxRecDepth 100000 in
set_option maxHeartbeats 4000000 in
theorem first_nil1 (w : World) (k fr : Int) (hk : ¬ k < 1) :
    Calls Try.prog 14 #[.pointer none, .int .i64 k, .int .i64 fr] w fun e W' => e = .returned (.tuple #[.agg #[.int .i64 0, .int .i64 0], .bool false]) ∧ Below w.heap.size w W' := by
  refine (callsIn_wide (n := 3)).1 ?_
  refine callsIn_of_wp_marks Try.func14 rfl trivial ?_ rfl
  simp only [Try.ntmps14, List.size_toArray, List.length_cons, List.length_nil, Nat.reduceAdd, Nat.reduceSub, Array.replicate_succ, Array.replicate_zero, List.push_toArray, List.append_toArray, List.nil_append, List.cons_append]
  gi_wp2_with (refine ⟨trivial, ?_⟩; gi_at_call 22; refine (callsIn_wide.2 (nodes_any _ _)).mono ?_; rintro e w' ⟨rfl, rfl⟩)
  obtain ⟨W0, hW0, b0, b1, b2, b3, b4, hB0, hs0⟩ : ∃ W0, (((((w.alloc (.cells #[.int .i64 k] 3)).alloc (.cells #[.int .i64 fr] 3)).alloc (.cells #[.int .i64 0, .int .i64 0] 24)).alloc (.cells #[.bool false] 4)).alloc (.cells #[.pointer none] 26)) = W0 ∧ Blk W0 (w.heap.size) 3 #[.int .i64 k] ∧ Blk W0 (w.heap.size + 1) 3 #[.int .i64 fr] ∧ Blk W0 (w.heap.size + 1 + 1) 24 #[.int .i64 0, .int .i64 0] ∧ Blk W0 (w.heap.size + 1 + 1 + 1) 4 #[.bool false] ∧ Blk W0 (w.heap.size + 1 + 1 + 1 + 1) 26 #[.pointer none] ∧ Below w.heap.size w W0 ∧ W0.heap.size = w.heap.size + 5 := ⟨_, rfl, ((((Blk.new w _ _).alloc _).alloc _).alloc _).alloc _, (((Blk.new_at _ _ _ _ (by simp)).alloc _).alloc _).alloc _, ((Blk.new_at _ _ _ _ (by simp)).alloc _).alloc _, (Blk.new_at _ _ _ _ (by simp)).alloc _, Blk.new_at _ _ _ _ (by simp), balloc (balloc (balloc (balloc (balloc (Below.refl _ w) _) _) _) _) _, by simp⟩
  rw [hW0]
  clear hW0
  refine wpIn_rangeFunc_ownG (F := Fence.wide) rfl (by omega) (gf := 29) (lb := #[.pointer (some ⟨w.heap.size + 1 + 1 + 1 + 1, 0, none⟩)]) rfl trivial (enters_of Try.func29 (by kernel_rfl) rfl)
    (nodes_seq_nil w W0 _ b4)
    (fun h k => h.t k) (kpN_b hB0.size) (Below.refl _ _) (fun _ => rfl)
    (fun pre W => Blk W (w.heap.size) 3 #[.int .i64 k] ∧ Blk W (w.heap.size + 1) 3 #[.int .i64 fr] ∧ Blk W (w.heap.size + 1 + 1) 24 #[.int .i64 0, .int .i64 0] ∧ Blk W (w.heap.size + 1 + 1 + 1) 4 #[.bool false] ∧ Below w.heap.size w W)
    (fun _ _ _ => False)
    ((Own.from (blk_own _ _ _) _).and ((Own.from (blk_own _ _ _) _).and ((Own.from (blk_own _ _ _) _).and ((Own.from (blk_own _ _ _) _).and (ownFrom_below (Nat.le_refl _) hB0.size)))))
    (fun _ _ _ _ _ hs _ _ => hs)
    ⟨b0, b1, b2, b3, hB0⟩
    (fun y => { tmps := #[.pointer none, .int .i64 k, .int .i64 fr, undef, .pointer (some ⟨w.heap.size, 0, none⟩), .pointer (some ⟨w.heap.size + 1, 0, none⟩), .pointer (some ⟨w.heap.size + 1 + 1, 0, none⟩), .pointer (some ⟨w.heap.size + 1 + 1 + 1, 0, none⟩), undef, .pointer none, undef, .int .i64 k, .bool false, undef, .pointer none, .func (.func 29) #[] #[.pointer (some ⟨w.heap.size + 1 + 1 + 1 + 1, 0, none⟩)], .pointer none, .pointer none, undef, undef, undef, undef, undef, undef, undef, undef, undef, undef, undef, undef, undef, undef, undef, undef, undef, undef, undef, undef, undef, undef, undef, undef, undef, undef, undef, undef, undef, undef, undef, undef, undef, undef, undef, undef, undef, undef, undef, undef, undef], defers := [] }) ?assign ?body ?done ?stop
  case assign =>
    intro l y W K hK
    gi_wp2
    exact hK
  case body =>
    rintro l pre y W _ _
    exact y.elim0
  case done =>
    rintro D ys W hD rfl ⟨k0, k1, k2, k3, hB⟩ hK
    have c00 := k0.cell 0
    have f00 := k0.frozen 0
    replace c00 : W.cell? ⟨w.heap.size, 0, none⟩ = some (.int .i64 k) := c00
    have c10 := k1.cell 0
    have f10 := k1.frozen 0
    replace c10 : W.cell? ⟨w.heap.size + 1, 0, none⟩ = some (.int .i64 fr) := c10
    have c20 := k2.cell 0
    have f20 := k2.frozen 0
    replace c20 : W.cell? ⟨w.heap.size + 1 + 1, 0, none⟩ = some (.int .i64 0) := c20
    have c21 := k2.cell 1
    have f21 := k2.frozen 1
    replace c21 : W.cell? ⟨w.heap.size + 1 + 1, 1, none⟩ = some (.int .i64 0) := c21
    have c30 := k3.cell 0
    have f30 := k3.frozen 0
    replace c30 : W.cell? ⟨w.heap.size + 1 + 1 + 1, 0, none⟩ = some (.bool false) := c30
    gi_wp2_with fail
    have j2 : Blk (((W.setCell ⟨w.heap.size + 1 + 1, 0, none⟩ (.int .i64 0)).setCell ⟨w.heap.size + 1 + 1, 1, none⟩ (.int .i64 0)).setCell ⟨w.heap.size + 1 + 1 + 1, 0, none⟩ (.bool false)) (w.heap.size + 1 + 1) 24 #[.int .i64 0, .int .i64 0] := (((k2).set_ 0 _).set_ 1 _).far (p := ⟨w.heap.size + 1 + 1 + 1, 0, none⟩) (by simp) _
    have j3 : Blk (((W.setCell ⟨w.heap.size + 1 + 1, 0, none⟩ (.int .i64 0)).setCell ⟨w.heap.size + 1 + 1, 1, none⟩ (.int .i64 0)).setCell ⟨w.heap.size + 1 + 1 + 1, 0, none⟩ (.bool false)) (w.heap.size + 1 + 1 + 1) 4 #[.bool false] := (((k3).far (p := ⟨w.heap.size + 1 + 1, 0, none⟩) (by simp) _).far (p := ⟨w.heap.size + 1 + 1, 1, none⟩) (by simp) _).set_ 0 _
    have hB2 : Below w.heap.size w (((W.setCell ⟨w.heap.size + 1 + 1, 0, none⟩ (.int .i64 0)).setCell ⟨w.heap.size + 1 + 1, 1, none⟩ (.int .i64 0)).setCell ⟨w.heap.size + 1 + 1 + 1, 0, none⟩ (.bool false)) := (((hB.setCell (p := ⟨w.heap.size + 1 + 1, 0, none⟩) (by simp; try omega) (.int .i64 0)).setCell (p := ⟨w.heap.size + 1 + 1, 1, none⟩) (by simp; try omega) (.int .i64 0)).setCell (p := ⟨w.heap.size + 1 + 1 + 1, 0, none⟩) (by simp; try omega) (.bool false))
    have hK2 : (((W.setCell ⟨w.heap.size + 1 + 1, 0, none⟩ (.int .i64 0)).setCell ⟨w.heap.size + 1 + 1, 1, none⟩ (.int .i64 0)).setCell ⟨w.heap.size + 1 + 1 + 1, 0, none⟩ (.bool false)).heap[D]? = some (.deferred (some [])) := ((Below.heap_setCell ((W.setCell ⟨w.heap.size + 1 + 1, 0, none⟩ (.int .i64 0)).setCell ⟨w.heap.size + 1 + 1, 1, none⟩ (.int .i64 0)) ⟨w.heap.size + 1 + 1 + 1, 0, none⟩ (.bool false) D (by simp; omega)).trans ((Below.heap_setCell (W.setCell ⟨w.heap.size + 1 + 1, 0, none⟩ (.int .i64 0)) ⟨w.heap.size + 1 + 1, 1, none⟩ (.int .i64 0) D (by simp; omega)).trans ((Below.heap_setCell W ⟨w.heap.size + 1 + 1, 0, none⟩ (.int .i64 0) D (by simp; omega)).trans hK)))
    generalize (((W.setCell ⟨w.heap.size + 1 + 1, 0, none⟩ (.int .i64 0)).setCell ⟨w.heap.size + 1 + 1, 1, none⟩ (.int .i64 0)).setCell ⟨w.heap.size + 1 + 1 + 1, 0, none⟩ (.bool false)) = W2 at *
    have g20 := (blk_put (o := .deferred none) (D := D) j2 (by omega)).cell 0
    replace g20 : (W2.putObj D (.deferred none)).cell? ⟨w.heap.size + 1 + 1, 0, none⟩ = some (.int .i64 0) := g20
    have g21 := (blk_put (o := .deferred none) (D := D) j2 (by omega)).cell 1
    replace g21 : (W2.putObj D (.deferred none)).cell? ⟨w.heap.size + 1 + 1, 1, none⟩ = some (.int .i64 0) := g21
    have g30 := (blk_put (o := .deferred none) (D := D) j3 (by omega)).cell 0
    replace g30 : (W2.putObj D (.deferred none)).cell? ⟨w.heap.size + 1 + 1 + 1, 0, none⟩ = some (.bool false) := g30
    refine ⟨by simp, .inl ⟨_, _, rfl, run_takeDeferred hK2, ?_⟩⟩
    exact ⟨.tuple #[.agg #[.int .i64 0, .int .i64 0], .bool false], by simp [results, Try.results14, go_sem, g20, g21, g30], rfl, hB2.trans (belowK_b (w := w) (Nat.le_refl _) W2 D _ _ (by omega) hK2 rfl rfl)⟩
  case stop =>
    rintro D c pre W _ h
    exact h.elim

set_option maxRecDepth 100000 in
set_option maxHeartbeats 4000000 in
theorem list_nil (w : World) :
    Calls Try.prog 10 #[.pointer none] w fun e W' => e = .returned (.slice none 0 0) ∧ Below w.heap.size w W' := by
  refine (callsIn_wide (n := 3)).1 ?_
  refine callsIn_of_wp_marks Try.func10 rfl trivial ?_ rfl
  simp only [Try.ntmps10, List.size_toArray, List.length_cons, List.length_nil, Nat.reduceAdd, Nat.reduceSub, Array.replicate_succ, Array.replicate_zero, List.push_toArray, List.append_toArray, List.nil_append, List.cons_append]
  gi_wp2_with (refine ⟨trivial, ?_⟩; gi_at_call 22; refine (callsIn_wide.2 (nodes_any _ _)).mono ?_; rintro e w' ⟨rfl, rfl⟩)
  obtain ⟨W0, hW0, b0, b1, hB0, hs0⟩ : ∃ W0, ((w.alloc (.cells #[.slice none 0 0] 33)).alloc (.cells #[.pointer none] 26)) = W0 ∧ Blk W0 (w.heap.size) 33 #[.slice none 0 0] ∧ Blk W0 (w.heap.size + 1) 26 #[.pointer none] ∧ Below w.heap.size w W0 ∧ W0.heap.size = w.heap.size + 2 := ⟨_, rfl, (Blk.new w _ _).alloc _, Blk.new_at _ _ _ _ (by simp), balloc (balloc (Below.refl _ w) _) _, by simp⟩
  rw [hW0]
  clear hW0
  refine wpIn_rangeFunc_ownG (F := Fence.wide) rfl (by omega) (gf := 29) (lb := #[.pointer (some ⟨w.heap.size + 1, 0, none⟩)]) rfl trivial (enters_of Try.func29 (by kernel_rfl) rfl)
    (nodes_seq_nil w W0 _ b1)
    (fun h k => h.t k) (kpN_b hB0.size) (Below.refl _ _) (fun _ => rfl)
    (fun pre W => Blk W (w.heap.size) 33 #[.slice none 0 0] ∧ Below w.heap.size w W)
    (fun _ _ _ => False)
    ((Own.from (blk_own _ _ _) _).and (ownFrom_below (Nat.le_refl _) hB0.size))
    (fun _ _ _ _ _ hs _ _ => hs)
    ⟨b0, hB0⟩
    (fun y => { tmps := #[.pointer none, undef, .pointer (some ⟨w.heap.size, 0, none⟩), undef, .pointer none, .pointer none, .func (.func 29) #[] #[.pointer (some ⟨w.heap.size + 1, 0, none⟩)], .pointer none, .pointer none, undef, undef, undef, undef, undef, undef, undef, undef], defers := [] }) ?assign ?body ?done ?stop
  case assign =>
    intro l y W K hK
    gi_wp2
    exact hK
  case body =>
    rintro l pre y W _ _
    exact y.elim0
  case done =>
    rintro D ys W hD rfl ⟨k0, hB⟩ hK
    have c00 := k0.cell 0
    have f00 := k0.frozen 0
    replace c00 : W.cell? ⟨w.heap.size, 0, none⟩ = some (.slice none 0 0) := c00
    gi_wp2_with fail
    have j0 : Blk (W.setCell ⟨w.heap.size, 0, none⟩ (.slice none 0 0)) (w.heap.size) 33 #[.slice none 0 0] := (k0).set_ 0 _
    have hB2 : Below w.heap.size w (W.setCell ⟨w.heap.size, 0, none⟩ (.slice none 0 0)) := (hB.setCell (p := ⟨w.heap.size, 0, none⟩) (by simp; try omega) (.slice none 0 0))
    have hK2 : (W.setCell ⟨w.heap.size, 0, none⟩ (.slice none 0 0)).heap[D]? = some (.deferred (some [])) := ((Below.heap_setCell W ⟨w.heap.size, 0, none⟩ (.slice none 0 0) D (by simp; omega)).trans hK)
    generalize (W.setCell ⟨w.heap.size, 0, none⟩ (.slice none 0 0)) = W2 at *
    have g00 := (blk_put (o := .deferred none) (D := D) j0 (by omega)).cell 0
    replace g00 : (W2.putObj D (.deferred none)).cell? ⟨w.heap.size, 0, none⟩ = some (.slice none 0 0) := g00
    refine ⟨by simp, .inl ⟨_, _, rfl, run_takeDeferred hK2, ?_⟩⟩
    exact ⟨.slice none 0 0, by simp [results, Try.results10, go_sem, g00], rfl, hB2.trans (belowK_b (w := w) (Nat.le_refl _) W2 D _ _ (by omega) hK2 rfl rfl)⟩
  case stop =>
    rintro D c pre W _ h
    exact h.elim

theorem first_nil (w : World) (k fr : Int) : Calls Try.prog 14 #[.pointer none, .int .i64 k, .int .i64 fr] w fun e W' => e = .returned (.tuple #[.agg #[.int .i64 0, .int .i64 0], .bool false]) ∧ Below w.heap.size w W' := by
  by_cases hk : k < 1
  · exact first_low w none k fr hk
  · exact first_nil1 w k fr hk

theorem copy_nil (w : World) : Calls Try.prog 18 #[.pointer none] w fun e W' => e = .returned (.pointer none) ∧ Below w.heap.size w W' := by
  go_enter Try.func18, Try.ntmps18
  go_wp2_with fail
  go_ret
  exact ⟨rfl, Below.refl _ _⟩

theorem has_nil (w : World) (i : Int) : Calls Try.prog 15 #[.pointer none, .int .i64 i] w fun e W' => e = .returned (.bool false) ∧ Below w.heap.size w W' := by
  have HO := Lib.hid (of_nil w i)
  go_enter Try.func15, Try.ntmps15
  go_wp2_with fail
  refine HO.out.mono ?_
  rintro e w1 ⟨rfl, hb⟩
  go_wp2_with fail
  go_ret
  exact ⟨rfl, balloc hb _⟩

theorem has_any (w : World) (B sb : Nat) (rs : List Rn) (h : IsSet w B sb rs) (i : Int) (i0 : -9223372036854775808 ≤ i) (i1 : i ≤ 9223372036854775807) :
    Calls Try.prog 15 #[.pointer (some ⟨sb, 0, none⟩), .int .i64 i] w fun e W' => e = .returned (.bool (memR rs i)) ∧ Below w.heap.size w W' := by
  have HO := Lib.hid (of_any w B sb rs h i i0 i1)
  clear h i0 i1
  go_enter Try.func15, Try.ntmps15
  go_wp2_with fail
  refine HO.out.mono ?_
  rintro e w1 ⟨x, b, rfl, hv, hb⟩
  have HB := Lib.hid hb
  have HV := Lib.hid (show b = memR rs i by
    rcases hv with ⟨rfl, h1, h2⟩ | ⟨rfl, _, h2⟩
    · exact (memR_of h1 h2).symm
    · cases hm : memR rs i
      · rfl
      · obtain ⟨r, hr, hi⟩ := List.any_eq_true.1 hm
        rw [h2 r hr] at hi
        cases hi)
  clear hv hb
  go_wp2_with fail
  go_ret
  exact ⟨ret_bool HV.out, balloc HB.out _⟩

theorem apt_sum : ∀ (rs : List Rn) (hi : Int), Apt rs → (∀ r ∈ rs, r.1 + r.2 ≤ hi) → ∀ x t, rs = x :: t → sumR rs ≤ hi - x.1
  | x :: [], hi, h, hb, _, _, rfl => by
    have := hb x (by simp)
    simp [sumR]; omega
  | x :: y :: t, hi, h, hb, _, _, rfl => by
    have h1 := apt_sum (y :: t) hi h.tail (fun r hr => hb r (List.mem_cons_of_mem _ hr)) y t rfl
    have h2 := (List.pairwise_cons.1 h.2).1 y (by simp)
    rw [sumR_cons]
    omega
theorem sum_bd {rs : List Rn} (h : GoodR rs) (m : Nat) : 0 ≤ sumR (rs.take m) ∧ sumR (rs.take m) ≤ 65536 := by
  have hbd : ∀ r ∈ rs.take m, 0 ≤ r.1 ∧ 1 ≤ r.2 ∧ r.1 + r.2 ≤ 65536 := fun r hr => good_bd h (List.mem_of_mem_take hr)
  have ha : Apt (rs.take m) := ⟨fun r hr => (hbd r hr).2.1, h.1.2.sublist (List.take_sublist _ _)⟩
  constructor
  · generalize rs.take m = l at *
    clear ha
    induction l with
    | nil => exact Int.le_refl _
    | cons x t ih =>
      have := hbd x (by simp)
      have := ih (fun r hr => hbd r (List.mem_cons_of_mem _ hr))
      rw [sumR_cons]
      omega
  · cases hl : rs.take m with
    | nil => simp [sumR]
    | cons x t =>
      rw [hl] at ha hbd
      have := apt_sum (x :: t) 65536 ha (fun r hr => (hbd r hr).2.2) x t rfl
      have := hbd x (by simp)
      omega
theorem take_snoc (rs : List Rn) (m : Nat) (h : m < rs.length) : rs.take (m + 1) = rs.take m ++ [rs.getD m (0, 0)] := by
  rw [List.take_succ_eq_append_getElem h]; simp [List.getD, h]
theorem totL_sum {ch : List Nd} {rs : List Rn} (he : ch.map Prod.snd = (-2, 1) :: rs) (hg : GoodR rs) : ∀ m, m ≤ ch.length - 1 → totL ch (chP ch m) = sumR (rs.take m)
  | 0, _ => rfl
  | m + 1, hm => by
    have hl := ch_len he
    have hmr : m < rs.length := by omega
    rw [chP_succ ch m (by omega), totL_snoc, totL_sum he hg m (by omega)]
    have e1 : ndL ch (m + 1) = (rs.getD m (0, 0)).2 := by rw [← ch_nd he m hmr]; rfl
    have h1 := sum_bd hg (m + 1)
    rw [take_snoc rs m hmr, sumR_append] at h1
    dsimp only
    rw [e1, take_snoc rs m hmr, sumR_append]
    have e2 : sumR [rs.getD m (0, 0)] = (rs.getD m (0, 0)).2 := by simp [sumR]
    rw [e2] at h1 ⊢
    generalize (rs.getD m (0, 0)).2 = v at *
    generalize sumR (rs.take m) = S at *
    have h3 : IntKind.i64.wrap (S + v) = S + v := by simp [IntKind.wrap, IntKind.signed, IntKind.bits]; omega
    exact h3
theorem total_set (w : World) (B sb : Nat) (rs : List Rn) (h : IsSet w B sb rs) :
    Calls Try.prog 16 #[.pointer (some ⟨sb, 0, none⟩)] w fun e W' => e = .returned (.int .i64 (sumR rs)) ∧ Below w.heap.size w W' := by
  obtain ⟨ch, hr, he, _, hg⟩ := h
  have hl := ch_len he
  have e1 : totL ch (List.finRange (ch.length - 1)) = sumR rs := by
    have h1 := totL_sum he hg (ch.length - 1) (Nat.le_refl _)
    rw [chP, List.take_of_length_le (by simp), List.take_of_length_le (by omega)] at h1
    exact h1
  rw [← e1]
  exact total_any w sb ch hr
end Go.Proofs.Ytpkbmdibiefbdaa
