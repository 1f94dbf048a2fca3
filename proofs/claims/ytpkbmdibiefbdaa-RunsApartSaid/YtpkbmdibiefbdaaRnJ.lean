/- Runs: List. -/
import Derived.Test.YtpkbmdibiefbdaaRnI
namespace Go.Proofs.Ytpkbmdibiefbdaa
open Go.RowKit Go.Shelf
set_option linter.unusedVariables false
set_option linter.unusedSimpArgs false

attribute [local go_sem] Oper.semAt_some

theorem step_append_in {F : Fence} {n : Nat} {P : Program} (w : World) {ops : Array Oper} {o : Oper} {a : Act} {K : Act → World → Prop} {Q : Exit → Act → World → Prop} {E : Prop}
    (hg : o.guard = none) (s x : Operand) (t : TypeId) (hop : o.op = Op.call { callee := Callee.builtin Builtin.append, args := #[s, x], argTypes := #[t, t] })
    (base : Nat) (e : TypeId) (i : TypeInfo) (z : Value) (size bytes : Nat) (h1 : P.underlying t = some (.slice e)) (h2 : P.info? e = some i) (h3 : i.zero = some z) (h4 : i.size = size) (h5 : i.bytes = bytes) (h6 : z.cells.size = size) (h7 : 0 < size)
    (v : Value) (k : Nat) (xs : List Value) (hs : a.eval s = v) (hown : w.ownsRow base e size v k xs) (ad : Addr) (m c : Nat) (news : List Value) (hx : a.eval x = .slice (some ad) m c) (hn : news.length = m * size)
    (hc : ∀ j u, news[j]? = some u → w.cell? (ad.add j) = some u) (h1c : ∀ u ∈ news, u.oneCell' = true) (b1 : k + m ≤ maxLen) (b2 : (k + m) * bytes ≤ 140737488355328) (b3 : base ≤ w.heap.size)
    (hK : ∀ v' w', w'.ownsRow base e size v' (k + m) (xs ++ news) → w.grownBy w' v.ownBlock → K (a.put o.dst v') w') :
    if Region.wanted o (yielded ops a.tmps) = true then Oper.wpIn F n P o a w K Q else E := by
  have hw : Region.wanted o (yielded ops a.tmps) = true := by simp [Region.wanted, hg]
  rw [if_pos hw]
  obtain ⟨v', w', hrun, r1, r2, r3⟩ := run_append_own (P := P) w base t o.type e i z size bytes h1 h2 h3 h4 h5 h6 h7 v k xs hown ad m c news hn hc h1c b1 b2 b3
  unfold Oper.wpIn
  refine ⟨?_, ?_⟩
  · simp [Oper.about, hop, resolve, Target.leads, Sem.run_pure]
  · rw [Oper.semAt_plain F _ _ (by rw [hop]; intro c hc'; cases hc')]
    simp [execOp, hop, resolve, invoke, builtin, hs, hx, hrun, Result.andThen]
    exact hK _ _ r1 r2

theorem own_form {w : World} {base : Nat} {e : TypeId} {size : Nat} {v : Value} {n : Nat} {xs : List Value} (h : w.ownsRow base e size v n xs) : ∃ A c, v = .slice A n c ∧ n ≤ c := by
  rcases h.2 with ⟨rfl, rfl⟩ | ⟨g, cap, cur, rfl, _, _, h1, _⟩
  · exact ⟨none, 0, rfl, Nat.le_refl _⟩
  · exact ⟨_, cap, rfl, h1⟩

theorem infoRun : (Try.prog.info? 24).map (fun i => (i.zero, i.size, i.bytes)) = some (some (.agg #[.int .i64 0, .int .i64 0]), 2, 16) := by kernel_rfl

def rnC (r : Rn) : List Value := [.int .i64 r.1, .int .i64 r.2]
theorem rnC_len (l : List Rn) : (l.flatMap rnC).length = l.length * 2 := by
  induction l with
  | nil => rfl
  | cons x t ih => simp only [List.flatMap_cons, List.length_append, ih, List.length_cons, rnC, List.length_nil]; omega

theorem kpN_append {W w1 : World} {n₀ B : Nat} {v v' : Value} {k m : Nat} {xs ys : List Value} {tmp : Obj} (hv : Boxed W B 33 v) (hrow : W.ownsRow n₀ 24 2 v k xs) (hn₀ : n₀ ≤ W.heap.size) (hB : n₀ ≤ B)
    (hown' : w1.ownsRow n₀ 24 2 v' m ys) (hgrow : (W.alloc tmp).grownBy w1 v.ownBlock) : KpN n₀ W (w1.setCell ⟨B, 0, none⟩ v') := by
  refine ⟨(hv.appended (by decide) hrow hn₀ hB hown' hgrow).2.2.2.2, fun b cs hb => ?_⟩
  have e1 : v.ownBlock ≠ some b := own_blk_ne hrow hb (by decide)
  have e2 : b ≠ B := by
    rintro rfl
    have h3 : W.heap[b]? = some (.cells #[v] 33 (0, 0)) := hv
    have h4 : W.heap[b]? = some (.cells cs 26 (0, 0)) := hb
    rw [h3] at h4
    simp at h4
  have hb1 : Blk w1 b 26 cs := (hgrow.block b (by have := hb.lt; simp; omega) (Ne.symm e1)).trans (hb.alloc tmp)
  exact hb1.far (p := ⟨B, 0, none⟩) e2 v'

/-- What came, as a row. -/
def lsL (rs : List Rn) {k : Nat} (pre : List (Fin k)) : List Value := (pre.map fun y => rs.getD y.val (0, 0)).flatMap rnC

set_option maxRecDepth 100000 in
set_option maxHeartbeats 4000000 in
theorem list_any (w : World) (B sb : Nat) (rs : List Rn) (h : IsSet w B sb rs) (hrl : rs.length ≤ 65536) :
    Calls Try.prog 10 #[.pointer (some ⟨sb, 0, none⟩)] w fun e W' => ∃ v, e = .returned v ∧ W'.ownsRow w.heap.size 24 2 v rs.length (rs.flatMap rnC) ∧ Below w.heap.size w W' := by
  obtain ⟨ch, hr, he, _, hg⟩ := h
  have hl := ch_len he
  obtain ⟨i0, hi, hz0, hz1, hz2⟩ := info_parts infoRun
  refine (callsIn_wide (n := 3)).1 ?_
  refine callsIn_of_wp_marks Try.func10 rfl trivial ?_ rfl
  simp only [Try.ntmps10, List.size_toArray, List.length_cons, List.length_nil, Nat.reduceAdd, Nat.reduceSub, Array.replicate_succ, Array.replicate_zero, List.push_toArray, List.append_toArray, List.nil_append, List.cons_append]
  gi_wp2_with (refine ⟨trivial, ?_⟩; gi_at_call 22; refine (callsIn_wide.2 (nodes_any _ _)).mono ?_; rintro e w' ⟨rfl, rfl⟩)
  obtain ⟨W0, hW0⟩ : ∃ W0, ((w.alloc (.cells #[.slice none 0 0] 33)).alloc (.cells #[.pointer (some ⟨sb, 0, none⟩)] 26)) = W0 := ⟨_, rfl⟩
  have b0 : Blk W0 w.heap.size 33 #[.slice none 0 0] := by rw [← hW0]; exact (Blk.new _ _ _).alloc _
  have b1 : Blk W0 (w.heap.size + 1) 26 #[.pointer (some ⟨sb, 0, none⟩)] := by rw [← hW0]; exact Blk.new_at _ _ _ _ (by simp)
  have hB0 : Below w.heap.size w W0 := by rw [← hW0]; exact balloc (balloc (Below.refl _ w) _) _
  rw [hW0]
  have hs0 : W0.heap.size = w.heap.size + 2 := by rw [← hW0]; simp
  clear hW0
  refine wpIn_rangeFunc_ownG (F := Fence.wide) rfl (by omega) (gf := 29) (lb := #[.pointer (some ⟨w.heap.size + 1, 0, none⟩)]) rfl trivial (enters_of Try.func29 (by kernel_rfl) rfl)
    (nodes_seq w W0 sb _ ch hr b1 hB0)
    (fun h k => h.t k) (kpN_b hB0.size) (Below.refl _ _) (fun _ => rfl)
    (fun pre W => (∃ v, Boxed W w.heap.size 33 v ∧ W.ownsRow w.heap.size 24 2 v pre.length (lsL rs pre) ∧ True) ∧ Below w.heap.size w W)
    (fun _ _ _ => False)
    (OwnFrom.and (Own.from (holdsRow_own w.heap.size w.heap.size 33 24 2 (fun pre : List (Fin (ch.length - 1)) => pre.length) (fun pre => lsL rs pre) (fun _ _ => True)) _) (ownFrom_below (Nat.le_refl _) hB0.size))
    (fun _ _ _ _ _ hs _ _ => hs)
    ⟨⟨_, b0, World.ownsRow_nil _ _ _ _, trivial⟩, hB0⟩
    (fun y => { tmps := #[.pointer (some ⟨sb, 0, none⟩), undef, .pointer (some ⟨w.heap.size, 0, none⟩), undef, .pointer (some ⟨ndB ch (y.val + 1), 0, none⟩), .pointer (some ⟨sb, 0, none⟩), .func (.func 29) #[] #[.pointer (some ⟨w.heap.size + 1, 0, none⟩)], .pointer (some ⟨ndB ch y.val, 0, none⟩), .pointer (some ⟨ndB ch (y.val + 1), 0, none⟩), undef, undef, undef, undef, undef, undef, undef, undef], defers := [] }) ?assign ?body ?done ?stop
  case assign =>
    intro l y W K hK
    gi_wp2
    exact hK
  case body =>
    rintro l pre y W ⟨⟨v, hv, hrow, _⟩, hB⟩ hlt
    have hc := hv.cell
    have hf := hv.frozen
    have hy : y.val < rs.length := by have := y.isLt; omega
    have hnd := ((hr.nx hB).c.nd (y.val + 1) (by omega))
    rw [ch_nd he y.val hy] at hnd
    have hY := Lib.hid (show lsL rs (pre ++ [y]) = lsL rs pre ++ rnC (rs.getD y.val (0, 0)) by simp [lsL])
    have hR := Lib.hid (show rnC (rs.getD y.val (0, 0)) = [.int .i64 (rs.getD y.val (0, 0)).1, .int .i64 (rs.getD y.val (0, 0)).2] from rfl)
    generalize rs.getD y.val (0, 0) = n at *
    obtain ⟨nA, nL⟩ := n
    dsimp only at hnd hR
    obtain ⟨c0, c1, c2⟩ := hnd.c3
    obtain ⟨A, cc, rfl, _⟩ := own_form hrow
    have HL := Lib.hid (show pre.length + 1 ≤ 65536 by omega)
    have HP := Lib.hid (show (pre ++ [y]).length = pre.length + 1 by simp)
    have hcb := hv.lt
    have hmx : Try.prog.follows .mixedOrders = true := by kernel_rfl
    have HV := Lib.hid hv
    have HB := Lib.hid hB
    clear he hl hg hlt hy hnd hv hB
    gi_wp2_with fail
    have hc0 := World.cell?_alloc_lt W (.cells #[.int .i64 nA, .int .i64 nL] 24) ⟨w.heap.size, 0, none⟩ hcb
    refine wpIn_region_any_round hmx (by kernel_rfl) ?_
    refine wpAnyIn_take (i := 1) (v := ?_) rfl rfl (by kernel_rfl) (by kernel_rfl) (by kernel_rfl) (fun _ _ _ h => h) ⟨Or.inl ⟨by rfl, ?_⟩, fun _ => rfl⟩ ?_
    rotate_left
    · intro w; go_simp; try (with_reducible rfl)
    refine wpAnyIn_take (i := 2) (v := ?_) rfl rfl (by kernel_rfl) (by kernel_rfl) (by kernel_rfl) (fun _ _ _ h => h) ⟨Or.inl ⟨by rfl, ?_⟩, fun _ => rfl⟩ ?_
    rotate_left
    · intro w; go_simp; try (with_reducible rfl)
    refine wpAnyIn_take (i := 3) (v := ?_) rfl rfl (by kernel_rfl) (by kernel_rfl) (by kernel_rfl) (fun _ _ _ h => h) ⟨Or.inl ⟨by rfl, ?_⟩, fun _ => rfl⟩ ?_
    rotate_left
    · intro w; go_simp; try (with_reducible rfl)
    have hc0 : (W.drew.alloc (.cells #[.int .i64 nA, .int .i64 nL] 24)).cell? ⟨w.heap.size, 0, none⟩ = some (.slice A pre.length cc) := (World.cell?_alloc_lt W.drew _ ⟨w.heap.size, 0, none⟩ hcb).trans hc
    refine wpAnyIn_ready (rs := [0, 4]) (by kernel_rfl) (by simp) ?_
    refine AllReadyIn.cons rfl (fun K hK => ?_) (AllReadyIn.cons rfl (fun K hK => ?_) AllReadyIn.nil)
    · go_simp
      refine hK _ _ ?_
      clear hK K
      refine wpAnyIn_ready (rs := [4]) (by kernel_rfl) (by simp) ?_
      refine AllReadyIn.cons rfl (fun K hK => ?_) AllReadyIn.nil
      go_simp
      refine hK _ _ ?_
      clear hK K
      refine wpAnyIn_ready (rs := [5]) (by kernel_rfl) (by simp) ?_
      refine AllReadyIn.cons rfl (fun K hK => ?_) AllReadyIn.nil
      go_simp
      refine hK _ _ ?_
      clear hK K
      refine wpAnyIn_ready (rs := [6]) (by kernel_rfl) (by simp) ?_
      refine AllReadyIn.cons rfl (fun K hK => ?_) AllReadyIn.nil
      refine step_append_in _ rfl _ _ 33 rfl w.heap.size 24 i0 (.agg #[.int .i64 0, .int .i64 0]) 2 16 Try.underlying33 hi hz0 hz1 hz2 rfl (by decide) (.slice A pre.length cc) pre.length (lsL rs pre) rfl (hrow.alloc _) ⟨W.heap.size, 0, none⟩ 1 1 (rnC (nA, nL)) rfl rfl (World.news_of_block (Blk.new W.drew 24 #[.int .i64 nA, .int .i64 nL])) (by simp [rnC, Value.oneCell']) (by have := HL.out; unfold maxLen; omega) (by have := HL.out; omega) (by have := HB.out.size; simp; omega) ?_
      intro v' w1 hown' hgrow
      obtain ⟨g', cap', rfl⟩ := ownsRow_succ hown'
      obtain ⟨hv1, hv2, hr2, hk2, hb2⟩ := Boxed.appended (W := W.drew) HV.out (by decide) hrow HB.out.size (Nat.le_refl _) hown' hgrow
      have hkp := kpN_append (W := W.drew) HV.out hrow HB.out.size (Nat.le_refl _) hown' hgrow
      have hc1 := hv1.cell
      have hf1 := hv1.frozen
      refine hK _ _ ?_
      clear hK K
      refine wpAnyIn_ready (rs := [7]) (by kernel_rfl) (by simp) ?_
      refine AllReadyIn.cons rfl (fun K hK => ?_) AllReadyIn.nil
      go_simp
      refine hK _ _ ?_
      clear hK K
      refine wpAnyIn_done (by kernel_rfl) ?_ _
      gi_wp2_with fail
      exact ⟨⟨hk2.size, fun k o _ h hc => hk2.same k o h hc⟩, ⟨((Below.refl _ W).drew).trans hkp.1, hkp.2⟩, ⟨_, hv2, by rw [hY.out, HP.out]; exact hr2, trivial⟩, HB.out.trans ((Below.refl _ W).drew.trans hb2)⟩
    · go_simp
      refine hK _ _ ?_
      clear hK K
      refine wpAnyIn_ready (rs := [0, 5]) (by kernel_rfl) (by simp) ?_
      refine AllReadyIn.cons rfl (fun K hK => ?_) (AllReadyIn.cons rfl (fun K hK => ?_) AllReadyIn.nil)
      · go_simp
        refine hK _ _ ?_
        clear hK K
        refine wpAnyIn_ready (rs := [5]) (by kernel_rfl) (by simp) ?_
        refine AllReadyIn.cons rfl (fun K hK => ?_) AllReadyIn.nil
        go_simp
        refine hK _ _ ?_
        clear hK K
        refine wpAnyIn_ready (rs := [6]) (by kernel_rfl) (by simp) ?_
        refine AllReadyIn.cons rfl (fun K hK => ?_) AllReadyIn.nil
        refine step_append_in _ rfl _ _ 33 rfl w.heap.size 24 i0 (.agg #[.int .i64 0, .int .i64 0]) 2 16 Try.underlying33 hi hz0 hz1 hz2 rfl (by decide) (.slice A pre.length cc) pre.length (lsL rs pre) rfl (hrow.alloc _) ⟨W.heap.size, 0, none⟩ 1 1 (rnC (nA, nL)) rfl rfl (World.news_of_block (Blk.new W.drew 24 #[.int .i64 nA, .int .i64 nL])) (by simp [rnC, Value.oneCell']) (by have := HL.out; unfold maxLen; omega) (by have := HL.out; omega) (by have := HB.out.size; simp; omega) ?_
        intro v' w1 hown' hgrow
        obtain ⟨g', cap', rfl⟩ := ownsRow_succ hown'
        obtain ⟨hv1, hv2, hr2, hk2, hb2⟩ := Boxed.appended (W := W.drew) HV.out (by decide) hrow HB.out.size (Nat.le_refl _) hown' hgrow
        have hkp := kpN_append (W := W.drew) HV.out hrow HB.out.size (Nat.le_refl _) hown' hgrow
        have hc1 := hv1.cell
        have hf1 := hv1.frozen
        refine hK _ _ ?_
        clear hK K
        refine wpAnyIn_ready (rs := [7]) (by kernel_rfl) (by simp) ?_
        refine AllReadyIn.cons rfl (fun K hK => ?_) AllReadyIn.nil
        go_simp
        refine hK _ _ ?_
        clear hK K
        refine wpAnyIn_done (by kernel_rfl) ?_ _
        gi_wp2_with fail
        exact ⟨⟨hk2.size, fun k o _ h hc => hk2.same k o h hc⟩, ⟨((Below.refl _ W).drew).trans hkp.1, hkp.2⟩, ⟨_, hv2, by rw [hY.out, HP.out]; exact hr2, trivial⟩, HB.out.trans ((Below.refl _ W).drew.trans hb2)⟩
      · go_simp
        refine hK _ _ ?_
        clear hK K
        refine wpAnyIn_ready (rs := [0]) (by kernel_rfl) (by simp) ?_
        refine AllReadyIn.cons rfl (fun K hK => ?_) AllReadyIn.nil
        go_simp
        refine hK _ _ ?_
        clear hK K
        refine wpAnyIn_ready (rs := [6]) (by kernel_rfl) (by simp) ?_
        refine AllReadyIn.cons rfl (fun K hK => ?_) AllReadyIn.nil
        refine step_append_in _ rfl _ _ 33 rfl w.heap.size 24 i0 (.agg #[.int .i64 0, .int .i64 0]) 2 16 Try.underlying33 hi hz0 hz1 hz2 rfl (by decide) (.slice A pre.length cc) pre.length (lsL rs pre) rfl (hrow.alloc _) ⟨W.heap.size, 0, none⟩ 1 1 (rnC (nA, nL)) rfl rfl (World.news_of_block (Blk.new W.drew 24 #[.int .i64 nA, .int .i64 nL])) (by simp [rnC, Value.oneCell']) (by have := HL.out; unfold maxLen; omega) (by have := HL.out; omega) (by have := HB.out.size; simp; omega) ?_
        intro v' w1 hown' hgrow
        obtain ⟨g', cap', rfl⟩ := ownsRow_succ hown'
        obtain ⟨hv1, hv2, hr2, hk2, hb2⟩ := Boxed.appended (W := W.drew) HV.out (by decide) hrow HB.out.size (Nat.le_refl _) hown' hgrow
        have hkp := kpN_append (W := W.drew) HV.out hrow HB.out.size (Nat.le_refl _) hown' hgrow
        have hc1 := hv1.cell
        have hf1 := hv1.frozen
        refine hK _ _ ?_
        clear hK K
        refine wpAnyIn_ready (rs := [7]) (by kernel_rfl) (by simp) ?_
        refine AllReadyIn.cons rfl (fun K hK => ?_) AllReadyIn.nil
        go_simp
        refine hK _ _ ?_
        clear hK K
        refine wpAnyIn_done (by kernel_rfl) ?_ _
        gi_wp2_with fail
        exact ⟨⟨hk2.size, fun k o _ h hc => hk2.same k o h hc⟩, ⟨((Below.refl _ W).drew).trans hkp.1, hkp.2⟩, ⟨_, hv2, by rw [hY.out, HP.out]; exact hr2, trivial⟩, HB.out.trans ((Below.refl _ W).drew.trans hb2)⟩

  case done =>
    rintro D ys W hD rfl ⟨⟨v, hv, hrow, _⟩, hB⟩ hK
    have hc := hv.cell
    have hf := hv.frozen
    obtain ⟨A, cc, rfl, _⟩ := own_form hrow
    have hlen : (chP ch (ch.length - 1)).length = rs.length := by rw [chP_len _ _ (Nat.le_refl _)]; omega
    have hls : lsL rs (chP ch (ch.length - 1)) = rs.flatMap rnC := by
      unfold lsL
      rw [chP, List.take_of_length_le (by simp)]
      congr 1
      refine List.ext_getElem (by simp; omega) (fun i h1 h2 => ?_)
      simp [List.getD, h2]
    rw [hlen] at hc hv
    rw [hlen, hls] at hrow
    gi_wp2_with fail
    have hDne : D ≠ w.heap.size := by omega
    have hK2 : (W.setCell ⟨w.heap.size, 0, none⟩ (.slice A rs.length cc)).heap[D]? = some (.deferred (some [])) := (Below.heap_setCell W ⟨w.heap.size, 0, none⟩ _ D hDne).trans hK
    have hv2 : Boxed (W.setCell ⟨w.heap.size, 0, none⟩ (.slice A rs.length cc)) w.heap.size 33 (.slice A rs.length cc) := hv.set _
    have hr2 := hrow.kept (grownBy_setCell' W w.heap.size (.slice A rs.length cc)) (.inr (hv.not_row (by decide) hrow).symm)
    have hB2 := hB.setCell (p := ⟨w.heap.size, 0, none⟩) (Nat.le_refl _) (.slice A rs.length cc)
    clear hK hv hrow hB hc hf
    generalize W.setCell ⟨w.heap.size, 0, none⟩ (.slice A rs.length cc) = W2 at *
    have hv3 : Boxed (W2.putObj D (.deferred none)) w.heap.size 33 (.slice A rs.length cc) := (World.putObj_heap_other (Ne.symm hDne)).trans hv2
    have hc3 := hv3.cell
    refine ⟨by simp, .inl ⟨_, _, rfl, run_takeDeferred hK2, ?_⟩⟩
    refine ⟨.slice A rs.length cc, by simp [results, Try.results10, go_sem, hc3], .slice A rs.length cc, rfl, ownsRow_putObj hr2 _ hK2 rfl, ?_⟩
    exact hB2.trans (belowK_b (w := w) (Nat.le_refl _) W2 D _ _ (by omega) hK2 rfl rfl)
  case stop =>
    rintro D c pre W _ _ h _
    exact h.elim
end Go.Proofs.Ytpkbmdibiefbdaa
