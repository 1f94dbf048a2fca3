/- Runs: Total of no set. -/
import Derived.Test.YtpkbmdibiefbdaaRnC
namespace Go.Proofs.Ytpkbmdibiefbdaa
open Go.RowKit Go.Shelf
set_option linter.unusedVariables false
set_option linter.unusedSimpArgs false

attribute [local go_sem] Oper.semAt_some

set_option maxRecDepth 100000 in
set_option maxHeartbeats 4000000 in
theorem total_nil (w : World) :
    Calls Try.prog 16 #[.pointer none] w fun e W' => e = .returned (.int .i64 (0)) ∧ Below w.heap.size w W' := by
  refine (callsIn_wide (n := 3)).1 ?_
  refine callsIn_of_wp_marks Try.func16 rfl trivial ?_ rfl
  simp only [Try.ntmps16, List.size_toArray, List.length_cons, List.length_nil, Nat.reduceAdd, Nat.reduceSub, Array.replicate_succ, Array.replicate_zero, List.push_toArray, List.append_toArray, List.nil_append, List.cons_append]
  gi_wp2_with (refine ⟨trivial, ?_⟩; gi_at_call 22; refine (callsIn_wide.2 (nodes_any _ _)).mono ?_; rintro e w' ⟨rfl, rfl⟩)
  have bO := Boxed.new w 3 (.int .i64 0)
  have bN := Boxed.new (w.alloc (.cells #[.int .i64 0] 3)) 26 (.pointer none)
  rw [World.size_alloc] at bN
  have hB0 : Below w.heap.size w ((w.alloc (.cells #[.int .i64 0] 3)).alloc (.cells #[.pointer none] 26)) := ((Below.refl _ w).alloc (Nat.le_refl _) _).alloc (by simp) _
  refine wpIn_rangeFunc_ownG (F := Fence.wide) rfl (by omega) (gf := 29) (lb := #[.pointer (some ⟨w.heap.size + 1, 0, none⟩)]) rfl trivial (enters_of Try.func29 (by kernel_rfl) rfl)
    (encs := fun y : Fin 0 => #[.pointer none, .pointer none]) (Kp := KpN w.heap.size) (S := fun ys => ys = []) (Sp := fun _ => False) (N := 0) (w0 := (w.alloc (.cells #[.int .i64 0] 3)).alloc (.cells #[.pointer none] 26))
    (fun l J Jx W hW hJ _ hY h0 => (nodes1_nil_in _ l (w.heap.size + 1) J W (Blk.below (w := (w.alloc (.cells #[.int .i64 0] 3)).alloc (.cells #[.pointer none] 26)) bN hW (by simp)) h0).mono fun _ _ hh => ⟨hh.1, .inl ⟨[], rfl, hh.2⟩⟩)
    (fun h k => h.t k) (kpN_b (by simp; omega)) (Below.refl _ _) (fun _ => rfl)
    (fun pre W => Boxed W w.heap.size 3 (.int .i64 0) ∧ Below w.heap.size w W)
    (fun _ _ _ => False)
    (OwnFrom.and (Own.from (boxed_own w.heap.size 3 (fun _ => .int .i64 0)) _) (ownFrom_below (Nat.le_refl _) (by simp; omega)))
    (fun _ _ _ _ _ hs _ _ => hs)
    ⟨bO.alloc _, hB0⟩
    (fun y => { tmps := #[.pointer none, undef, .pointer (some ⟨w.heap.size, 0, none⟩), undef, .pointer none, .pointer none, .func (.func 29) #[] #[.pointer (some ⟨w.heap.size + 1, 0, none⟩)], .pointer none, .pointer none, undef, undef, undef, undef, undef, undef, undef, undef], defers := [] }) ?assign ?body ?done ?stop
  case assign =>
    intro l y W K hK
    gi_wp2
    exact hK
  case body =>
    rintro l pre y W _ _
    exact y.elim0
  case done =>
    rintro D ys W hD rfl ⟨hv, hB⟩ hK
    have hc := hv.cell
    have hf := hv.frozen
    gi_wp2_with fail
    have hDne : D ≠ w.heap.size := by simp at hD; omega
    have hK2 : (W.setCell ⟨w.heap.size, 0, none⟩ (.int .i64 (0))).heap[D]? = some (.deferred (some [])) := (Below.heap_setCell W ⟨w.heap.size, 0, none⟩ _ D hDne).trans hK
    have hv2 : Boxed (W.setCell ⟨w.heap.size, 0, none⟩ (.int .i64 (0))) w.heap.size 3 (.int .i64 (0)) := hv.set _
    have hB2 := hB.setCell (p := ⟨w.heap.size, 0, none⟩) (Nat.le_refl _) (.int .i64 (0))
    clear hK hv hB hc hf
    generalize W.setCell ⟨w.heap.size, 0, none⟩ (.int .i64 (0)) = W2 at *
    have hv3 : Boxed (W2.putObj D (.deferred none)) w.heap.size 3 (.int .i64 (0)) := (World.putObj_heap_other (Ne.symm hDne)).trans hv2
    have hc3 := hv3.cell
    refine ⟨by simp, .inl ⟨_, _, rfl, run_takeDeferred hK2, ?_⟩⟩
    refine ⟨.int .i64 (0), by simp [results, Try.results16, go_sem, hc3], rfl, ?_⟩
    exact hB2.trans (belowK_b (w := w) (Nat.le_refl _) W2 D _ _ (by simp at hD; omega) hK2 rfl rfl)
  case stop =>
    rintro D c pre W _ _ h _
    exact h.elim
end Go.Proofs.Ytpkbmdibiefbdaa
