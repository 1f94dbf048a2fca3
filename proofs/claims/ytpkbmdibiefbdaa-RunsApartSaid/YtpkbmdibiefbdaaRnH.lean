/- Runs: a set, by its row of runs; Total; Of. -/
import Derived.Test.YtpkbmdibiefbdaaRnQ
namespace Go.Proofs.Ytpkbmdibiefbdaa
open Go.RowKit Go.Shelf
set_option linter.unusedVariables false
set_option linter.unusedSimpArgs false

attribute [local go_sem] Oper.semAt_some

/-- A set in memory: its struct in block sb, its nodes from block B on, its runs. -/
def IsSet (w : World) (B sb : Nat) (rs : List Rn) : Prop := ∃ ch, IsRn w sb ch ∧ ch.map Prod.snd = (-2, 1) :: rs ∧ (∀ x ∈ ch, B ≤ x.1) ∧ GoodR rs
theorem IsSet.nx {w w' : World} {B sb : Nat} {rs : List Rn} (h : IsSet w B sb rs) (hb : Below w.heap.size w w') : IsSet w' B sb rs := by
  obtain ⟨ch, h1, h2⟩ := h
  exact ⟨ch, h1.nx hb, h2⟩
theorem ch_len {ch : List Nd} {h : Rn} {rs : List Rn} (e : ch.map Prod.snd = h :: rs) : ch.length = rs.length + 1 := by
  have := congrArg List.length e
  simpa using this
theorem ch_nd {ch : List Nd} {h : Rn} {rs : List Rn} (e : ch.map Prod.snd = h :: rs) (i : Nat) (hi : i < rs.length) : (ch.getD (i + 1) (0, 0, 0)).2 = rs.getD i (0, 0) := by
  have hl := ch_len e
  have h1 : (ch.map Prod.snd)[i + 1]? = (h :: rs)[i + 1]? := by rw [e]
  rw [List.getElem?_map, List.getElem?_cons_succ] at h1
  simp only [List.getD]
  rw [List.getElem?_eq_getElem (by omega), List.getElem?_eq_getElem hi] at h1
  rw [List.getElem?_eq_getElem (by omega), List.getElem?_eq_getElem hi]
  simpa using h1
theorem rs_mem {rs : List Rn} {i : Nat} (hi : i < rs.length) : rs.getD i (0, 0) ∈ rs := by
  simp [List.getD, hi]

theorem blk_own (B : Nat) (t : TypeId) {β : Type} (cs : Array Value) : Own (fun (_ : β) W => Blk W B t cs) := fun s X Y row hs hg hr => Blk.grown hs hg fun e' => by
  obtain ⟨o, ho, hc⟩ := hr B e'.symm
  rw [show X.heap[B]? = _ from hs] at ho
  cases ho
  cases hc
theorem blkF_own (B : Nat) (t : TypeId) {β : Type} (f : β → Array Value) : Own (fun (s : β) W => Blk W B t (f s)) := fun s X Y row hs hg hr => Blk.grown hs hg fun e' => by
  obtain ⟨o, ho, hc⟩ := hr B e'.symm
  rw [show X.heap[B]? = _ from hs] at ho
  cases ho
  cases hc
theorem pure_own {β : Type} (B : Nat) (p : β → Prop) : OwnFrom B (fun (s : β) (_ : World) => p s) := fun _ _ _ _ hs _ _ => hs
theorem ex_own {β γ : Type} {B : Nat} {f : γ → β → World → Prop} (h : ∀ c, OwnFrom B (f c)) : OwnFrom B (fun s W => ∃ c, f c s W) := fun s X Y row hs hg hr => by
  obtain ⟨c, hs⟩ := hs
  exact ⟨c, h c s X Y row hs hg hr⟩
theorem kpN_blk {n₀ : Nat} {W : World} {B : Nat} {t : TypeId} {cs : Array Value} (h : Blk W B t cs) (ht : t ≠ 26) (hB : n₀ ≤ B) (i : Nat) (u : Value) : KpN n₀ W (W.setCell ⟨B, i, none⟩ u) := by
  refine ⟨(Below.refl n₀ W).setCell (p := ⟨B, i, none⟩) hB u, fun b cs hb => hb.far (p := ⟨B, i, none⟩) ?_ u⟩
  rintro rfl
  exact Blk.ne_ h hb ht rfl
theorem kpN_drew {n₀ : Nat} {W W' : World} (h : KpN n₀ W W') : KpN n₀ W W'.drew := ⟨h.1.drew, h.2⟩

abbrev ndE (ch : List Nd) (y : Fin (ch.length - 1)) : Array Value := #[.pointer (some ⟨ndB ch y.val, 0, none⟩), .pointer (some ⟨ndB ch (y.val + 1), 0, none⟩)]
theorem nodes_seq (w W0 : World) (sb Bn : Nat) (ch : List Nd) (h : IsRn w sb ch) (hBn : Blk W0 Bn 26 #[.pointer (some ⟨sb, 0, none⟩)]) (hB0 : Below w.heap.size w W0) :
    SeqStopsK Fence.wide 2 Try.prog 29 #[.pointer (some ⟨Bn, 0, none⟩)] (ndE ch) (KpN w.heap.size) (fun ys => ys = chP ch (ch.length - 1)) (fun pre => ∃ k, k < ch.length - 1 ∧ pre = chP ch (k + 1)) (ch.length - 1) W0 :=
  fun l J Jx W hW hJ _ hY h0 => nodes1_in _ (by omega) l Bn sb w ch h.s h.c J Jx W hY (Blk.below hBn hW hBn.lt) (hB0.trans (hW.mono hB0.size)) h0
theorem chP_all (ch : List Nd) (y : Fin (ch.length - 1)) : y ∈ chP ch (ch.length - 1) := by
  rw [chP, List.take_of_length_le (by simp)]
  exact List.mem_finRange y
theorem blk_put {W : World} {B D : Nat} {t : TypeId} {cs : Array Value} {o : Obj} (h : Blk W B t cs) (hne : B ≠ D) : Blk (W.putObj D o) B t cs := by
  have h' : W.heap[B]? = some (.cells cs t (0, 0)) := h
  exact (World.putObj_heap_other hne).trans h'

set_option maxRecDepth 100000 in
set_option maxHeartbeats 4000000 in
theorem of_any (w : World) (B sb : Nat) (rs : List Rn) (h : IsSet w B sb rs) (i : Int) (i0 : -9223372036854775808 ≤ i) (i1 : i ≤ 9223372036854775807) :
    Calls Try.prog 17 #[.pointer (some ⟨sb, 0, none⟩), .int .i64 i] w fun e W' => ∃ x : Rn, ∃ b : Bool, e = .returned (.tuple #[.agg #[.int .i64 x.1, .int .i64 x.2], .bool b]) ∧
      ((b = true ∧ x ∈ rs ∧ inR x i = true) ∨ (b = false ∧ x = (0, 0) ∧ ∀ r ∈ rs, inR r i = false)) ∧ Below w.heap.size w W' := by
  obtain ⟨ch, hr, he, _, hg⟩ := h
  have hl := ch_len he
  refine (callsIn_wide (n := 3)).1 ?_
  refine callsIn_of_wp_marks Try.func17 rfl trivial ?_ rfl
  simp only [Try.ntmps17, List.size_toArray, List.length_cons, List.length_nil, Nat.reduceAdd, Nat.reduceSub, Array.replicate_succ, Array.replicate_zero, List.push_toArray, List.append_toArray, List.nil_append, List.cons_append]
  gi_wp2_with (refine ⟨trivial, ?_⟩; gi_at_call 22; refine (callsIn_wide.2 (nodes_any _ _)).mono ?_; rintro e w' ⟨rfl, rfl⟩)
  obtain ⟨W0, hW0⟩ : ∃ W0, ((((w.alloc (.cells #[.int .i64 i] 3)).alloc (.cells #[.int .i64 0, .int .i64 0] 24)).alloc (.cells #[.bool false] 4)).alloc (.cells #[.pointer (some ⟨sb, 0, none⟩)] 26)) = W0 := ⟨_, rfl⟩
  have b0 : Blk W0 w.heap.size 3 #[.int .i64 i] := by rw [← hW0]; exact (((Blk.new _ _ _).alloc _).alloc _).alloc _
  have b1 : Blk W0 (w.heap.size + 1) 24 #[.int .i64 0, .int .i64 0] := by rw [← hW0]; exact ((Blk.new_at _ _ _ _ (by simp)).alloc _).alloc _
  have b2 : Blk W0 (w.heap.size + 1 + 1) 4 #[.bool false] := by rw [← hW0]; exact (Blk.new_at _ _ _ _ (by simp)).alloc _
  have b3 : Blk W0 (w.heap.size + 1 + 1 + 1) 26 #[.pointer (some ⟨sb, 0, none⟩)] := by rw [← hW0]; exact Blk.new_at _ _ _ _ (by simp)
  have hB0 : Below w.heap.size w W0 := by rw [← hW0]; exact balloc (balloc (balloc (balloc (Below.refl _ w) _) _) _) _
  rw [hW0]
  have hs0 : W0.heap.size = w.heap.size + 4 := by rw [← hW0]; simp
  clear hW0
  refine wpIn_rangeFunc_ownG (F := Fence.wide) rfl (by omega) (gf := 29) (lb := #[.pointer (some ⟨w.heap.size + 1 + 1 + 1, 0, none⟩)]) rfl trivial (enters_of Try.func29 (by kernel_rfl) rfl)
    (nodes_seq w W0 sb _ ch hr b3 hB0)
    (fun h k => h.t k) (kpN_b hB0.size) (Below.refl _ _) (fun _ => rfl)
    (fun pre W => (∀ x ∈ pre, inR (rs.getD x.val (0, 0)) i = false) ∧ Blk W w.heap.size 3 #[.int .i64 i] ∧ Blk W (w.heap.size + 1) 24 #[.int .i64 0, .int .i64 0] ∧ Blk W (w.heap.size + 1 + 1) 4 #[.bool false] ∧ Below w.heap.size w W)
    (fun c pre W => c = .ret ∧ ∃ x : Rn, (x ∈ rs ∧ inR x i = true) ∧ Blk W (w.heap.size + 1) 24 #[.int .i64 x.1, .int .i64 x.2] ∧ Blk W (w.heap.size + 1 + 1) 4 #[.bool true] ∧ Below w.heap.size w W)
    ((pure_own _ _).and ((Own.from (blk_own _ _ _) _).and ((Own.from (blk_own _ _ _) _).and ((Own.from (blk_own _ _ _) _).and (ownFrom_below (Nat.le_refl _) hB0.size)))))
    (fun c => (pure_own _ (fun _ => c = .ret)).and (ex_own fun x => (pure_own _ (fun _ => x ∈ rs ∧ inR x i = true)).and ((Own.from (blk_own _ _ _) _).and ((Own.from (blk_own _ _ _) _).and (ownFrom_below (Nat.le_refl _) hB0.size)))))
    ⟨fun _ h => (by cases h), b0, b1, b2, hB0⟩
    (fun y => { tmps := #[.pointer (some ⟨sb, 0, none⟩), .int .i64 i, undef, .pointer (some ⟨w.heap.size, 0, none⟩), .pointer (some ⟨w.heap.size + 1, 0, none⟩), .pointer (some ⟨w.heap.size + 1 + 1, 0, none⟩), undef, .pointer (some ⟨ndB ch (y.val + 1), 0, none⟩), .pointer (some ⟨sb, 0, none⟩), .func (.func 29) #[] #[.pointer (some ⟨w.heap.size + 1 + 1 + 1, 0, none⟩)], .pointer (some ⟨ndB ch y.val, 0, none⟩), .pointer (some ⟨ndB ch (y.val + 1), 0, none⟩), undef, undef, undef, undef, undef, undef, undef, undef, undef, undef, undef, undef, undef, undef, undef, undef, undef, undef, undef, undef, undef, undef, undef, undef, undef, undef, undef], defers := [] }) ?assign ?body ?done ?stop
  case assign =>
    intro l y W K hK
    gi_wp2
    exact hK
  case body =>
    rintro l pre y W ⟨hp, k0, k1, k2, hB⟩ hlt
    have hy : y.val < rs.length := by have := y.isLt; omega
    have hnd := ((hr.nx hB).c.nd (y.val + 1) (by omega))
    have hmem := rs_mem hy
    rw [ch_nd he y.val hy] at hnd
    have hbd := good_bd hg hmem
    have hY := Lib.hid (show ∀ x ∈ pre ++ [y], inR (rs.getD y.val (0, 0)) i = false → inR (rs.getD x.val (0, 0)) i = false from fun x hx h => by
      rcases List.mem_append.1 hx with hx | hx
      · exact hp x hx
      · simp at hx; subst hx; exact h)
    have hR := Lib.hid (show inR (rs.getD y.val (0, 0)) i = decide ((rs.getD y.val (0, 0)).1 ≤ i ∧ i < (rs.getD y.val (0, 0)).1 + (rs.getD y.val (0, 0)).2) from rfl)
    have hM := Lib.hid hmem
    clear hmem hp
    generalize rs.getD y.val (0, 0) = n at *
    obtain ⟨nA, nL⟩ := n
    dsimp only at hnd hbd hR
    obtain ⟨c0, c1, c2⟩ := hnd.c3
    have d0 := k0.c1
    obtain ⟨d1, d2⟩ := k1.c2
    have d3 := k2.c1
    have f1 := k1.frozen 0
    have f2 := k1.frozen 1
    have f3 := k2.frozen 0
    have hmx : Try.prog.follows .mixedOrders = true := by kernel_rfl
    have HG := Lib.hid hg
    have HL := Lib.hid hl
    have HE := Lib.hid he
    clear hg hl he hnd hy hlt
    by_cases q1 : nA ≤ i
    · have e1 : wrap64 (i - nA) = i - nA := by simp [wrap64]; omega
      have e2 : IntKind.i64.wrap (i - nA) = i - nA := by simp [IntKind.wrap, IntKind.signed, IntKind.bits]; omega
      by_cases q2 : i - nA < nL
      · have hRR := Lib.hid (show inR (nA, nL) i = true by rw [hR.out]; simp; omega)
        clear hbd
        gi_wp2_with fail
        refine wpIn_region_quiet_round hmx (by kernel_rfl) (by kernel_rfl) ?_
        repeat (gi_big_quiet_step (fail))
        refine wpQuietIn_nil ?_
        rintro _ ⟨nq, rfl⟩
        gi_wp2_with fail
        have j1 := ((k1.drewN nq).set_ 0 (.int .i64 nA)).set_ 1 (.int .i64 nL)
        have j2 := ((k2.drewN nq).far (p := ⟨w.heap.size + 1, 0, none⟩) (by simp) (.int .i64 nA)).far (p := ⟨w.heap.size + 1, 1, none⟩) (by simp) (.int .i64 nL)
        have hB2 := (((bdrewN hB nq).setCell (p := ⟨w.heap.size + 1, 0, none⟩) (by simp) (.int .i64 nA)).setCell (p := ⟨w.heap.size + 1, 1, none⟩) (by simp) (.int .i64 nL)).setCell (p := ⟨w.heap.size + 1 + 1, 0, none⟩) (by simp; omega) (.bool true)
        have hk : KeepsFrom W0.heap.size W (W.drewN nq) := ⟨Nat.le_refl _, fun _ _ _ h _ => h⟩
        exact ⟨hk.trans ((((KeepsOthers.setCell _ _ _).trans (KeepsOthers.setCell _ _ _)).trans (KeepsOthers.setCell _ _ _)).from _), rfl, (nA, nL), ⟨hM.out, hRR.out⟩, j1.far (p := ⟨w.heap.size + 1 + 1, 0, none⟩) (by simp) _, j2.set_ 0 _, hB2⟩
      · have hRR := Lib.hid (show inR (nA, nL) i = false by rw [hR.out]; simp; omega)
        clear hbd
        gi_wp2_with fail
        refine wpIn_region_quiet_round hmx (by kernel_rfl) (by kernel_rfl) ?_
        repeat (gi_big_quiet_step (fail))
        refine wpQuietIn_nil ?_
        rintro _ ⟨nq, rfl⟩
        gi_wp2_with fail
        exact ⟨⟨Nat.le_refl _, fun _ _ _ h _ => h⟩, ⟨bdrewN (Below.refl _ _) _, fun _ _ h => h⟩, fun x hx => hY.out x hx hRR.out, k0, k1, k2, bdrewN hB _⟩
    · have hRR := Lib.hid (show inR (nA, nL) i = false by rw [hR.out]; simp; omega)
      have d1 : decide (nA ≤ i) = false := by simpa using q1
      clear hbd
      gi_wp2_with fail
      refine wpIn_region_quiet_round hmx (by kernel_rfl) (by kernel_rfl) ?_
      repeat (gi_big_quiet_step (fail))
      refine wpQuietIn_nil ?_
      rintro _ ⟨nq, rfl⟩
      gi_wp2_with fail
      exact ⟨⟨Nat.le_refl _, fun _ _ _ h _ => h⟩, ⟨bdrewN (Below.refl _ _) _, fun _ _ h => h⟩, fun x hx => hY.out x hx hRR.out, k0, k1, k2, bdrewN hB _⟩
  case done =>
    rintro D ys W hD rfl ⟨hp, k0, k1, k2, hB⟩ hK
    obtain ⟨d1, d2⟩ := k1.c2
    have d3 := k2.c1
    have f1 := k1.frozen 0
    have f2 := k1.frozen 1
    have f3 := k2.frozen 0
    gi_wp2_with fail
    have j1 : Blk (((W.setCell ⟨w.heap.size + 1, 0, none⟩ (.int .i64 0)).setCell ⟨w.heap.size + 1, 1, none⟩ (.int .i64 0)).setCell ⟨w.heap.size + 1 + 1, 0, none⟩ (.bool false)) (w.heap.size + 1) 24 #[.int .i64 0, .int .i64 0] := ((k1.set_ 0 (.int .i64 0)).set_ 1 (.int .i64 0)).far (p := ⟨w.heap.size + 1 + 1, 0, none⟩) (by simp) _
    have j2 : Blk (((W.setCell ⟨w.heap.size + 1, 0, none⟩ (.int .i64 0)).setCell ⟨w.heap.size + 1, 1, none⟩ (.int .i64 0)).setCell ⟨w.heap.size + 1 + 1, 0, none⟩ (.bool false)) (w.heap.size + 1 + 1) 4 #[.bool false] := ((k2.far (p := ⟨w.heap.size + 1, 0, none⟩) (by simp) _).far (p := ⟨w.heap.size + 1, 1, none⟩) (by simp) _).set_ 0 _
    have hB2 := ((hB.setCell (p := ⟨w.heap.size + 1, 0, none⟩) (by simp) (.int .i64 0)).setCell (p := ⟨w.heap.size + 1, 1, none⟩) (by simp) (.int .i64 0)).setCell (p := ⟨w.heap.size + 1 + 1, 0, none⟩) (by simp; omega) (.bool false)
    have hK2 := ((Below.heap_setCell ((W.setCell ⟨w.heap.size + 1, 0, none⟩ (.int .i64 0)).setCell ⟨w.heap.size + 1, 1, none⟩ (.int .i64 0)) ⟨w.heap.size + 1 + 1, 0, none⟩ (.bool false) D (by simp; omega)).trans ((Below.heap_setCell (W.setCell ⟨w.heap.size + 1, 0, none⟩ (.int .i64 0)) ⟨w.heap.size + 1, 1, none⟩ (.int .i64 0) D (by simp; omega)).trans (Below.heap_setCell W ⟨w.heap.size + 1, 0, none⟩ (.int .i64 0) D (by simp; omega)))).trans hK
    clear k0 k1 k2 hB hK d1 d2 d3 f1 f2 f3
    generalize (((W.setCell ⟨w.heap.size + 1, 0, none⟩ (.int .i64 0)).setCell ⟨w.heap.size + 1, 1, none⟩ (.int .i64 0)).setCell ⟨w.heap.size + 1 + 1, 0, none⟩ (.bool false)) = W2 at *
    obtain ⟨g1, g2⟩ := (blk_put (o := .deferred none) (D := D) j1 (by omega)).c2
    have g3 := (blk_put (o := .deferred none) (D := D) j2 (by omega)).c1
    refine ⟨by simp, .inl ⟨_, _, rfl, run_takeDeferred hK2, ?_⟩⟩
    refine ⟨.tuple #[.agg #[.int .i64 0, .int .i64 0], .bool false], by simp [results, Try.results17, go_sem, g1, g2, g3], (0, 0), false, rfl, .inr ⟨rfl, rfl, fun r hr => ?_⟩, hB2.trans (belowK_b (w := w) (Nat.le_refl _) W2 D _ _ (by omega) hK2 rfl rfl)⟩
    obtain ⟨j, hj, rfl⟩ := List.getElem_of_mem hr
    have := hp ⟨j, by omega⟩ (chP_all ch _)
    simpa [List.getD, hj] using this
  case stop =>
    rintro D c pre W hD _ ⟨rfl, x, hx, k1, k2, hB⟩ hK
    gi_wp2_with fail
    obtain ⟨g1, g2⟩ := (blk_put (o := .deferred none) (D := D) k1 (by omega)).c2
    have g3 := (blk_put (o := .deferred none) (D := D) k2 (by omega)).c1
    refine ⟨by simp, .inl ⟨_, _, rfl, run_takeDeferred hK, ?_⟩⟩
    exact ⟨.tuple #[.agg #[.int .i64 x.1, .int .i64 x.2], .bool true], by simp [results, Try.results17, go_sem, g1, g2, g3], x, true, rfl, .inl ⟨rfl, hx.1, hx.2⟩, hB.trans (belowK_b (w := w) (Nat.le_refl _) W D _ _ (by omega) hK rfl rfl)⟩
end Go.Proofs.Ytpkbmdibiefbdaa
