/- Runs: Total. -/
import Derived.Test.YtpkbmdibiefbdaaRnB
namespace Go.Proofs.Ytpkbmdibiefbdaa
open Go.RowKit Go.Shelf
set_option linter.unusedVariables false
set_option linter.unusedSimpArgs false

attribute [local go_sem] Oper.semAt_some

def ndL (ch : List Nd) (i : Nat) : Int := (ch.getD i (0, 0, 0)).2.2
def totL (ch : List Nd) (l : List (Fin (ch.length - 1))) : Int := l.foldl (fun s i => IntKind.i64.wrap (s + ndL ch (i.val + 1))) 0
theorem totL_snoc (ch : List Nd) (l : List (Fin (ch.length - 1))) (i : Fin (ch.length - 1)) : totL ch (l ++ [i]) = IntKind.i64.wrap (totL ch l + ndL ch (i.val + 1)) := by simp [totL]

theorem kpN_b {n₀ : Nat} {w : World} (hn : n₀ ≤ w.heap.size) (W : World) (l : Nat) (o o' : Obj) (hl : w.heap.size ≤ l) (h : W.heap[l]? = some o) (hc : o.isCells = false) (hw : o.isWalk = false) : KpN n₀ W (W.putObj l o') := by
  refine ⟨belowK_b hn W l o o' hl h hc hw, fun b cs hb => ?_⟩
  have hne : b ≠ l := by
    rintro rfl
    have h1 : W.heap[b]? = some (.cells cs 26 (0, 0)) := hb
    rw [h1] at h
    cases h
    cases hc
  exact (World.putObj_heap_other hne).trans hb
theorem boxed_own (B : Nat) (t : TypeId) {β : Type} (f : β → Value) : Own (fun (s : β) W => Boxed W B t (f s)) := fun s X Y row hs hg hr => hs.kept hg fun e' => by
  obtain ⟨o, ho, hc⟩ := hr B e'.symm
  rw [show X.heap[B]? = _ from hs] at ho
  cases ho
  cases hc
theorem kpN_set {n₀ : Nat} {W : World} {B : Nat} {t : TypeId} {v u : Value} (h : Boxed W B t v) (ht : t ≠ 26) (hB : n₀ ≤ B) : KpN n₀ W (W.setCell ⟨B, 0, none⟩ u) := by
  refine ⟨(Below.refl n₀ W).setCell (p := ⟨B, 0, none⟩) hB u, fun b cs hb => hb.far (p := ⟨B, 0, none⟩) ?_ u⟩
  rintro rfl
  have h3 : W.heap[b]? = some (.cells #[v] t (0, 0)) := h
  have h4 : W.heap[b]? = some (.cells cs 26 (0, 0)) := hb
  rw [h3] at h4
  simp at h4
  exact ht h4.2

set_option maxRecDepth 100000 in
set_option maxHeartbeats 4000000 in
theorem total_any (w : World) (sb : Nat) (ch : List Nd) (h : IsRn w sb ch) :
    Calls Try.prog 16 #[.pointer (some ⟨sb, 0, none⟩)] w fun e W' => e = .returned (.int .i64 (totL ch (List.finRange (ch.length - 1)))) ∧ Below w.heap.size w W' := by
  refine (callsIn_wide (n := 3)).1 ?_
  refine callsIn_of_wp_marks Try.func16 rfl trivial ?_ rfl
  simp only [Try.ntmps16, List.size_toArray, List.length_cons, List.length_nil, Nat.reduceAdd, Nat.reduceSub, Array.replicate_succ, Array.replicate_zero, List.push_toArray, List.append_toArray, List.nil_append, List.cons_append]
  gi_wp2_with (refine ⟨trivial, ?_⟩; gi_at_call 22; refine (callsIn_wide.2 (nodes_any _ _)).mono ?_; rintro e w' ⟨rfl, rfl⟩)
  have bO := Boxed.new w 3 (.int .i64 0)
  have bN := Boxed.new (w.alloc (.cells #[.int .i64 0] 3)) 26 (.pointer (some ⟨sb, 0, none⟩))
  rw [World.size_alloc] at bN
  have hB0 : Below w.heap.size w ((w.alloc (.cells #[.int .i64 0] 3)).alloc (.cells #[.pointer (some ⟨sb, 0, none⟩)] 26)) := ((Below.refl _ w).alloc (Nat.le_refl _) _).alloc (by simp) _
  refine wpIn_rangeFunc_ownG (F := Fence.wide) rfl (by omega) (gf := 29) (lb := #[.pointer (some ⟨w.heap.size + 1, 0, none⟩)]) rfl trivial (enters_of Try.func29 (by kernel_rfl) rfl)
    (encs := fun y : Fin (ch.length - 1) => #[.pointer (some ⟨ndB ch y.val, 0, none⟩), .pointer (some ⟨ndB ch (y.val + 1), 0, none⟩)]) (Kp := KpN w.heap.size) (S := fun ys => ys = chP ch (ch.length - 1)) (Sp := fun pre => ∃ k, k < ch.length - 1 ∧ pre = chP ch (k + 1)) (N := ch.length - 1) (w0 := (w.alloc (.cells #[.int .i64 0] 3)).alloc (.cells #[.pointer (some ⟨sb, 0, none⟩)] 26))
    (fun l J Jx W hW hJ _ hY h0 => nodes1_in _ (by omega) l (w.heap.size + 1) sb w ch h.s h.c J Jx W hY (Blk.below (w := (w.alloc (.cells #[.int .i64 0] 3)).alloc (.cells #[.pointer (some ⟨sb, 0, none⟩)] 26)) bN hW (by simp)) (hB0.trans (hW.mono (by simp; omega))) h0)
    (fun h k => h.t k) (kpN_b (by simp; omega)) (Below.refl _ _) (fun _ => rfl)
    (fun pre W => Boxed W w.heap.size 3 (.int .i64 (totL ch pre)) ∧ Below w.heap.size w W)
    (fun _ _ _ => False)
    (OwnFrom.and (Own.from (boxed_own w.heap.size 3 (fun pre => .int .i64 (totL ch pre))) _) (ownFrom_below (Nat.le_refl _) (by simp; omega)))
    (fun _ _ _ _ _ hs _ _ => hs)
    ⟨bO.alloc _, hB0⟩
    (fun y => { tmps := #[.pointer (some ⟨sb, 0, none⟩), undef, .pointer (some ⟨w.heap.size, 0, none⟩), undef, .pointer (some ⟨ndB ch (y.val + 1), 0, none⟩), .pointer (some ⟨sb, 0, none⟩), .func (.func 29) #[] #[.pointer (some ⟨w.heap.size + 1, 0, none⟩)], .pointer (some ⟨ndB ch y.val, 0, none⟩), .pointer (some ⟨ndB ch (y.val + 1), 0, none⟩), undef, undef, undef, undef, undef, undef, undef, undef], defers := [] }) ?assign ?body ?done ?stop
  case assign =>
    intro l y W K hK
    gi_wp2
    exact hK
  case body =>
    rintro l pre y W ⟨hv, hB⟩ hlt
    have hc := hv.cell
    have hf := hv.frozen
    have hnd := ((h.nx hB).c.nd (y.val + 1) (by have := y.isLt; omega)).cell 1
    replace hnd : W.cell? ⟨ndB ch (y.val + 1), 1, none⟩ = some (.int .i64 (ndL ch (y.val + 1))) := hnd
    have hmx : Try.prog.follows .mixedOrders = true := by kernel_rfl
    gi_wp2_with fail
    gi_region_o
    all_goals gi_wp2_with fail
    all_goals
      have k1 := kpN_set (u := .int .i64 (IntKind.i64.wrap (totL ch pre + ndL ch (y.val + 1)))) hv (by decide) (Nat.le_refl w.heap.size)
      have k2 : Boxed (W.setCell ⟨w.heap.size, 0, none⟩ (.int .i64 (IntKind.i64.wrap (totL ch pre + ndL ch (y.val + 1))))) w.heap.size 3 (.int .i64 (totL ch (pre ++ [y]))) := by rw [totL_snoc]; exact hv.set _
      exact ⟨((KeepsOthers.setCell _ _ _).trans (KeepsOthers.drew _)).from _, ⟨k1.1.drew, fun b cs hb => k1.2 b cs hb⟩, k2, (hB.trans k1.1).drew⟩
  case done =>
    rintro D ys W hD rfl ⟨hv, hB⟩ hK
    have hc := hv.cell
    have hf := hv.frozen
    gi_wp2_with fail
    have hDne : D ≠ w.heap.size := by simp at hD; omega
    have hK2 : (W.setCell ⟨w.heap.size, 0, none⟩ (.int .i64 (totL ch (chP ch (ch.length - 1))))).heap[D]? = some (.deferred (some [])) := (Below.heap_setCell W ⟨w.heap.size, 0, none⟩ _ D hDne).trans hK
    have hv2 : Boxed (W.setCell ⟨w.heap.size, 0, none⟩ (.int .i64 (totL ch (chP ch (ch.length - 1))))) w.heap.size 3 (.int .i64 (totL ch (chP ch (ch.length - 1)))) := hv.set _
    have hB2 := hB.setCell (p := ⟨w.heap.size, 0, none⟩) (Nat.le_refl _) (.int .i64 (totL ch (chP ch (ch.length - 1))))
    clear hK hv hB hc hf
    generalize W.setCell ⟨w.heap.size, 0, none⟩ (.int .i64 (totL ch (chP ch (ch.length - 1)))) = W2 at *
    have hv3 : Boxed (W2.putObj D (.deferred none)) w.heap.size 3 (.int .i64 (totL ch (chP ch (ch.length - 1)))) := (World.putObj_heap_other (Ne.symm hDne)).trans hv2
    have hc3 := hv3.cell
    refine ⟨by simp, .inl ⟨_, _, rfl, run_takeDeferred hK2, ?_⟩⟩
    refine ⟨.int .i64 (totL ch (chP ch (ch.length - 1))), by simp [results, Try.results16, go_sem, hc3], by rw [chP, List.take_of_length_le (by simp)], ?_⟩
    exact hB2.trans (belowK_b (w := w) (Nat.le_refl _) W2 D _ _ (by simp at hD; omega) hK2 rfl rfl)
  case stop =>
    rintro D c pre W _ _ h _
    exact h.elim
end Go.Proofs.Ytpkbmdibiefbdaa
