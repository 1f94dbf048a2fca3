/- Runs: Add: the walk. -/
import Derived.Test.YtpkbmdibiefbdaaRnM
import Derived.LoopNIn
namespace Go.Proofs.Ytpkbmdibiefbdaa
open Go.RowKit Go.Shelf
set_option linter.unusedVariables false
set_option linter.unusedSimpArgs false

attribute [local go_sem] Oper.semAt_some

def addH (rs : List Rn) (r : Rn) : Bool := rs.any fun n => meetB r.1 r.2 n.1 n.2
def addE (rs : List Rn) (r : Rn) : Int := if mayB r.1 r.2 then (if addH rs r then 9 else 0) else 2
/-- What Add gives. -/
def GivesAdd (B sb : Nat) (rs : List Rn) (r : Rn) (w : World) (e : Ending) (w' : World) : Prop :=
  e = .returned (.int .i64 (addE rs r)) ∧ (addE rs r ≠ 0 → IsSet w' B sb rs) ∧
    (addE rs r = 0 → ∃ rs', IsSet w' B sb rs' ∧ (∀ i, memR rs' i = (memR rs i || inR r i)) ∧ sumR rs' = sumR rs + r.2) ∧ KpR B w w'

theorem add_nil (w : World) (a l : Int) : Calls Try.prog 11 #[.pointer none, .agg #[.int .i64 a, .int .i64 l]] w fun e W' => e = .returned (.int .i64 1) ∧ Below w.heap.size w W' := by
  have b1 := Blk.new_at (w.alloc (.cells #[.int .i64 a, .int .i64 l] 24)) (w.heap.size + 1) 35 #[.int .i64 0] (by simp)
  have b2 := Blk.new_at (w.alloc (.cells #[.int .i64 a, .int .i64 l] 24)) (w.heap.size + 1) 35 #[.int .i64 1] (by simp)
  have f1 := b1.frozen 0
  have c1 := b1.c1
  have c2 := b2.c1
  have hB : Below w.heap.size w ((w.alloc (.cells #[.int .i64 a, .int .i64 l] 24)).alloc (.cells #[.int .i64 1] 35)) := balloc (balloc (Below.refl _ w) _) _
  go_enter Try.func11, Try.ntmps11
  go_wp2_with fail
  clear b1 b2 f1 c1
  generalize ((w.alloc (.cells #[.int .i64 a, .int .i64 l] 24)).alloc (.cells #[.int .i64 1] 35)) = W0 at *
  exact bodyPost_ret (v := .int .i64 1) (by simp [results, Try.results11, go_sem, c2]) rfl ⟨rfl, hB⟩

theorem add_arg (w : World) (sb : Nat) (a l : Int) (h : mayB a l = false) : Calls Try.prog 11 #[.pointer (some ⟨sb, 0, none⟩), .agg #[.int .i64 a, .int .i64 l]] w fun e W' => e = .returned (.int .i64 2) ∧ Below w.heap.size w W' := by
  have b0 := (Blk.new w 24 #[.int .i64 a, .int .i64 l]).alloc (.cells #[.int .i64 0] 35)
  have b1 := Blk.new_at (w.alloc (.cells #[.int .i64 a, .int .i64 l] 24)) (w.heap.size + 1) 35 #[.int .i64 0] (by simp)
  have hB : Below w.heap.size w ((w.alloc (.cells #[.int .i64 a, .int .i64 l] 24)).alloc (.cells #[.int .i64 0] 35)) := balloc (balloc (Below.refl _ w) _) _
  obtain ⟨c0, c1⟩ := b0.c2
  have HM := Lib.hid (fun W => may_any W a l)
  rw [h] at HM
  have HB := Lib.hid hB
  have HB1 := Lib.hid b1
  clear hB b0 b1 h
  go_enter Try.func11, Try.ntmps11
  go_wp2_with fail
  refine (HM.out _).mono ?_
  rintro e w1 ⟨rfl, hb⟩
  have hb1 := HB1.out.nx hb
  have c2 := hb1.c1
  have f2 := hb1.frozen 0
  go_wp2_with fail
  have c3 := (hb1.set_ 0 (.int .i64 2)).cell 0
  replace c3 : (w1.setCell ⟨w.heap.size + 1, 0, none⟩ (.int .i64 2)).cell? ⟨w.heap.size + 1, 0, none⟩ = some (.int .i64 2) := c3
  have hB2 := (bnext HB.out hb).setCell (p := ⟨w.heap.size + 1, 0, none⟩) (by simp) (.int .i64 2)
  generalize (w1.setCell ⟨w.heap.size + 1, 0, none⟩ (.int .i64 2)) = W0 at *
  exact bodyPost_ret (v := .int .i64 2) (by simp [results, Try.results11, go_sem, c3]) rfl ⟨rfl, hB2⟩

set_option maxRecDepth 100000 in
set_option maxHeartbeats 4000000 in
theorem add_ok (w : World) (B sb : Nat) (rs : List Rn) (h : IsSet w B sb rs) (hBw : B ≤ w.heap.size) (a l : Int) (hm : mayB a l = true) :
    Calls Try.prog 11 #[.pointer (some ⟨sb, 0, none⟩), .agg #[.int .i64 a, .int .i64 l]] w (GivesAdd B sb rs (a, l) w) := by
  obtain ⟨ch, hr, he, hbb, hg⟩ := h
  have hl := ch_len he
  have hml := hm
  simp only [mayB, decide_eq_true_eq] at hml
  refine (callsIn_wide (n := 3)).1 ?_
  refine callsIn_of_wp_marks Try.func11 rfl trivial ?_ rfl
  simp only [Try.ntmps11, List.size_toArray, List.length_cons, List.length_nil, Nat.reduceAdd, Nat.reduceSub, Array.replicate_succ, Array.replicate_zero, List.push_toArray, List.append_toArray, List.nil_append, List.cons_append]
  have a0 := (Blk.new w 24 #[.int .i64 a, .int .i64 l]).alloc (.cells #[.int .i64 0] 35)
  have a1 := Blk.new_at (w.alloc (.cells #[.int .i64 a, .int .i64 l] 24)) (w.heap.size + 1) 35 #[.int .i64 0] (by simp)
  have hBa : Below w.heap.size w ((w.alloc (.cells #[.int .i64 a, .int .i64 l] 24)).alloc (.cells #[.int .i64 0] 35)) := balloc (balloc (Below.refl _ w) _) _
  obtain ⟨c0, c1⟩ := a0.c2
  have HM := Lib.hid (fun W => may_any W a l)
  rw [hm] at HM
  have HA := Lib.hid hBa
  have A0 := Lib.hid a0
  have A1 := Lib.hid a1
  have HG := Lib.hid hg
  have HE := Lib.hid he
  have HL := Lib.hid hl
  have HBB := Lib.hid hbb
  have HML := Lib.hid hml
  clear a0 a1 hBa hg he hl hbb hml
  gi_wp2_with (refine ⟨trivial, ?_⟩; gi_at_call 23; refine (callsIn_wide.2 (HM.out _)).mono ?_; rintro e wm ⟨rfl, hbm⟩; have vs := (hr.nx (bnext HA.out hbm)).s.c1)
  gi_wp2_with (refine ⟨trivial, ?_⟩; gi_at_call 22; refine (callsIn_wide.2 (nodes_any _ _)).mono ?_; rintro e w' ⟨rfl, rfl⟩)
  have hszm := hbm.size
  obtain ⟨tb, htb0⟩ : ∃ tb, wm.heap.size = tb := ⟨_, rfl⟩
  have htb : w.heap.size + 2 ≤ tb := by simp at hszm; omega
  obtain ⟨W0, hW0, b0, b1, b2, b3, hB0, hs0⟩ : ∃ W0, (wm.alloc (.cells #[.pointer (some ⟨ndB ch 0, 0, none⟩)] 46)).alloc (.cells #[.pointer (some ⟨sb, 0, none⟩)] 26) = W0 ∧ Blk W0 w.heap.size 24 #[.int .i64 a, .int .i64 l] ∧ Blk W0 (w.heap.size + 1) 35 #[.int .i64 0] ∧ Blk W0 tb 46 #[.pointer (some ⟨ndB ch 0, 0, none⟩)] ∧ Blk W0 (tb + 1) 26 #[.pointer (some ⟨sb, 0, none⟩)] ∧ Below w.heap.size w W0 ∧ tb + 2 = W0.heap.size :=
    ⟨_, rfl, ((A0.out.nx hbm).alloc _).alloc _, ((A1.out.nx hbm).alloc _).alloc _, (Blk.new_at wm tb _ _ htb0.symm).alloc _, Blk.new_at _ _ _ _ (by simp [htb0]), balloc (balloc (bnext HA.out hbm) _) _, by simp [htb0]⟩
  clear hbm hszm c0 c1 vs
  rw [hW0, htb0]
  clear hW0 htb0
  refine wpIn_rangeFunc_ownG (F := Fence.wide) rfl (by omega) (gf := 29) (lb := #[.pointer (some ⟨tb + 1, 0, none⟩)]) rfl trivial (enters_of Try.func29 (by kernel_rfl) rfl)
    (nodes_seq w W0 sb _ ch hr b3 hB0)
    (fun h k => h.t k) (kpN_b hB0.size) (Below.refl _ _) (fun _ => rfl)
    (fun pre W => (∀ x ∈ pre, meetB a l (rs.getD x.val (0, 0)).1 (rs.getD x.val (0, 0)).2 = false) ∧ Blk W w.heap.size 24 #[.int .i64 a, .int .i64 l] ∧ Blk W (w.heap.size + 1) 35 #[.int .i64 0] ∧ Blk W tb 46 #[.pointer (some ⟨ndB ch (atI rs a pre), 0, none⟩)] ∧ Below w.heap.size w W)
    (fun c pre W => c = .ret ∧ addH rs (a, l) = true ∧ Blk W (w.heap.size + 1) 35 #[.int .i64 9] ∧ Below w.heap.size w W)
    ((pure_own _ _).and ((Own.from (blk_own _ _ _) _).and ((Own.from (blk_own _ _ _) _).and ((Own.from (blkF_own tb 46 (fun pre => #[.pointer (some ⟨ndB ch (atI rs a pre), 0, none⟩)])) _).and (ownFrom_below (Nat.le_refl _) hB0.size)))))
    (fun c => (pure_own _ (fun _ => c = .ret)).and ((pure_own _ (fun _ => addH rs (a, l) = true)).and ((Own.from (blk_own _ _ _) _).and (ownFrom_below (Nat.le_refl _) hB0.size))))
    ⟨fun _ h => (by cases h), b0, b1, b2, hB0⟩
    (fun y => { tmps := #[.pointer (some ⟨sb, 0, none⟩), .agg #[.int .i64 a, .int .i64 l], undef, .pointer (some ⟨w.heap.size, 0, none⟩), .pointer (some ⟨w.heap.size + 1, 0, none⟩), .pointer (some ⟨tb, 0, none⟩), undef, .pointer (some ⟨ndB ch (y.val + 1), 0, none⟩), undef, undef, .bool false, .pointer (some ⟨sb, 0, none⟩), .bool false, .bool false, .agg #[.int .i64 a, .int .i64 l], .bool true, .bool false, .pointer (some ⟨sb, 0, none⟩), .pointer (some ⟨sb, 0, none⟩), .pointer (some ⟨sb, 0, none⟩), .pointer (some ⟨ndB ch 0, 0, none⟩), .pointer (some ⟨sb, 0, none⟩), .func (.func 29) #[] #[.pointer (some ⟨tb + 1, 0, none⟩)], .pointer (some ⟨ndB ch y.val, 0, none⟩), .pointer (some ⟨ndB ch (y.val + 1), 0, none⟩), undef, undef, undef, undef, undef, undef, undef, undef, undef, undef, undef, undef, undef, undef, undef, undef, undef, undef, undef, undef, undef, undef, undef, undef, undef, undef, undef, undef, undef, undef, undef, undef, undef, undef, undef, undef, undef, undef, undef, undef, undef], defers := [] }) ?assign ?body ?done ?stop
  case assign =>
    intro l y W K hK
    gi_wp2
    exact hK
  case body =>
    rintro ll pre y W ⟨hp, k0, k1, k2, hB⟩ hlt
    have hl := HL.out
    have hy : y.val < rs.length := by have := y.isLt; omega
    have hnd := (hr.nx hB).c.nd (y.val + 1) (by omega)
    have hmem := rs_mem hy
    rw [ch_nd HE.out y.val hy] at hnd
    have hbd := good_bd HG.out hmem
    have hY := Lib.hid (show ∀ z ∈ pre ++ [y], meetB a l (rs.getD y.val (0, 0)).1 (rs.getD y.val (0, 0)).2 = false → meetB a l (rs.getD z.val (0, 0)).1 (rs.getD z.val (0, 0)).2 = false from fun z hz h => by
      rcases List.mem_append.1 hz with hz | hz
      · exact hp z hz
      · simp at hz; subst hz; exact h)
    have hH := Lib.hid (show meetB a l (rs.getD y.val (0, 0)).1 (rs.getD y.val (0, 0)).2 = true → addH rs (a, l) = true from fun h => List.any_eq_true.2 ⟨_, hmem, h⟩)
    have hAt := Lib.hid (atI_snoc rs a pre y)
    clear hmem hp hlt hy hl
    generalize rs.getD y.val (0, 0) = n at *
    obtain ⟨nA, nL⟩ := n
    dsimp only at hnd hbd hY hH hAt
    obtain ⟨c0, c1, c2⟩ := hnd.c3
    obtain ⟨d0, d1⟩ := k0.c2
    have hml := HML.out
    have HMT := Lib.hid (fun W => meet_any W a l nA nL (by omega))
    have hmx : Try.prog.follows .mixedOrders = true := by kernel_rfl
    have HND := Lib.hid hnd
    have HKB := Lib.hid hB
    clear hml hnd hB hbd
    dsimp only
    gi_wp2_with fail
    refine wpIn_region_any_round hmx (by kernel_rfl) ?_
    refine wpAnyIn_take (i := 1) (v := ?_) rfl rfl (by decide +kernel) (by decide +kernel) (by decide +kernel) (fun _ _ _ h => h) ⟨Or.inl ⟨by rfl, ?_⟩, fun _ => rfl⟩ ?_
    rotate_left
    · intro w; go_simp; try (with_reducible rfl)
    refine wpAnyIn_take (i := 2) (v := ?_) rfl rfl (by decide +kernel) (by decide +kernel) (by decide +kernel) (fun _ _ _ h => h) ⟨Or.inl ⟨by rfl, ?_⟩, fun _ => rfl⟩ ?_
    rotate_left
    · intro w; go_simp; try (with_reducible rfl)
    refine wpAnyIn_take (i := 3) (v := ?_) rfl rfl (by decide +kernel) (by decide +kernel) (by decide +kernel) (fun _ _ _ h => h) ⟨Or.inl ⟨by rfl, ?_⟩, fun _ => rfl⟩ ?_
    rotate_left
    · intro w; go_simp; try (with_reducible rfl)
    refine wpAnyIn_ready (rs := [0, 4]) (by kernel_rfl) (by simp) ?_
    refine AllReadyIn.cons rfl (fun K hK => ?_) (AllReadyIn.cons rfl (fun K hK => ?_) AllReadyIn.nil)
    · skip
      go_simp
      refine hK _ _ ?_
      clear hK K
      refine wpAnyIn_ready (rs := [4]) (by kernel_rfl) (by simp) ?_
      refine AllReadyIn.cons rfl (fun K hK => ?_) AllReadyIn.nil
      go_simp
      refine hK _ _ ?_
      clear hK K
      refine wpAnyIn_ready (rs := [5]) (by kernel_rfl) (by simp) ?_
      refine AllReadyIn.cons rfl (fun K hK => ?_) AllReadyIn.nil
      go_simp
      refine ⟨trivial, (callsIn_wide.2 (HMT.out _)).mono ?_⟩
      rintro e w' ⟨rfl, hb⟩
      refine hK _ _ ?_
      clear hK K
      refine wpAnyIn_done (by kernel_rfl) ?_ _
      have v0 := Blk.nx (w := W.drew) k0 hb
      have v1 := Blk.nx (w := W.drew) k1 hb
      have v2 := Blk.nx (w := W.drew) k2 hb
      have vn := Blk.nx (w := W.drew) HND.out hb
      have hbW : Below W.heap.size W w' := (Below.refl W.heap.size W).drew.trans hb
      have hKF : KeepsFrom W0.heap.size W w' := ⟨hb.size, fun k o _ h _ => (hb.block k (Array.getElem?_eq_some_iff.1 h).1).trans h⟩
      have hKN : KpN w.heap.size W w' := KpN.of_below hbW HKB.out.size
      have hBB := HKB.out.trans (hbW.mono HKB.out.size)
      clear hb hbW c0 c1 c2 d0 d1
      cases hmt : meetB a l nA nL
      · have HN := Lib.hid hmt
        obtain ⟨g0, g1, g2⟩ := vn.c3
        obtain ⟨h0, h1⟩ := v0.c2
        have h2 := v2.c1
        have hf := v2.frozen 0
        clear hmt
        by_cases q1 : nA < a
        · gi_wp2_with fail
          refine wpIn_region_quiet_round hmx (by kernel_rfl) (by kernel_rfl) ?_
          repeat (gi_big_quiet_step (fail))
          refine wpQuietIn_nil ?_
          rintro _ ⟨nq, rfl⟩
          gi_wp2_with fail
          refine ⟨hKF.trans ⟨(KeepsOthers.setCell (w'.drewN nq) _ _).size, fun k o _ h hc => (KeepsOthers.setCell (w'.drewN nq) _ _).same k o h hc⟩, hKN.t (KpN.t ⟨bdrewN (Below.refl _ w') nq, fun _ _ h => h⟩ (kpN_blk (v2.drewN nq) (by decide) (by omega) 0 _)), fun z hz => hY.out z hz HN.out, (v0.drewN nq).far (p := ⟨tb, 0, none⟩) (Blk.ne_ v0 v2 (by decide)) _, (v1.drewN nq).far (p := ⟨tb, 0, none⟩) (Blk.ne_ v1 v2 (by decide)) _, ?_, (bdrewN hBB nq).setCell (p := ⟨tb, 0, none⟩) (by simp; omega) _⟩
          rw [hAt.out, if_pos q1]
          exact (v2.drewN nq).set_ 0 _
        · gi_wp2_with fail
          refine wpIn_region_quiet_round hmx (by kernel_rfl) (by kernel_rfl) ?_
          repeat (gi_big_quiet_step (fail))
          refine wpQuietIn_nil ?_
          rintro _ ⟨nq, rfl⟩
          gi_wp2_with fail
          refine ⟨hKF.trans ⟨Nat.le_refl _, fun _ _ _ h _ => h⟩, hKN.t ⟨bdrewN (Below.refl _ w') nq, fun _ _ h => h⟩, fun z hz => hY.out z hz HN.out, v0.drewN nq, v1.drewN nq, ?_, bdrewN hBB nq⟩
          rw [hAt.out, if_neg (by omega)]
          exact v2.drewN nq
      · have HN := Lib.hid (hH.out hmt)
        have h2 := v1.c1
        have hf := v1.frozen 0
        clear hmt
        gi_wp2_with fail
        exact ⟨hKF.trans ⟨(KeepsOthers.setCell w' _ _).size, fun k o _ h hc => (KeepsOthers.setCell w' _ _).same k o h hc⟩, rfl, HN.out, v1.set_ 0 _, hBB.setCell (p := ⟨w.heap.size + 1, 0, none⟩) (by simp) _⟩
    · skip
      go_simp
      refine hK _ _ ?_
      clear hK K
      refine wpAnyIn_ready (rs := [0]) (by kernel_rfl) (by simp) ?_
      refine AllReadyIn.cons rfl (fun K hK => ?_) AllReadyIn.nil
      go_simp
      refine hK _ _ ?_
      clear hK K
      refine wpAnyIn_ready (rs := [5]) (by kernel_rfl) (by simp) ?_
      refine AllReadyIn.cons rfl (fun K hK => ?_) AllReadyIn.nil
      go_simp
      refine ⟨trivial, (callsIn_wide.2 (HMT.out _)).mono ?_⟩
      rintro e w' ⟨rfl, hb⟩
      refine hK _ _ ?_
      clear hK K
      refine wpAnyIn_done (by kernel_rfl) ?_ _
      have v0 := Blk.nx (w := W.drew) k0 hb
      have v1 := Blk.nx (w := W.drew) k1 hb
      have v2 := Blk.nx (w := W.drew) k2 hb
      have vn := Blk.nx (w := W.drew) HND.out hb
      have hbW : Below W.heap.size W w' := (Below.refl W.heap.size W).drew.trans hb
      have hKF : KeepsFrom W0.heap.size W w' := ⟨hb.size, fun k o _ h _ => (hb.block k (Array.getElem?_eq_some_iff.1 h).1).trans h⟩
      have hKN : KpN w.heap.size W w' := KpN.of_below hbW HKB.out.size
      have hBB := HKB.out.trans (hbW.mono HKB.out.size)
      clear hb hbW c0 c1 c2 d0 d1
      cases hmt : meetB a l nA nL
      · have HN := Lib.hid hmt
        obtain ⟨g0, g1, g2⟩ := vn.c3
        obtain ⟨h0, h1⟩ := v0.c2
        have h2 := v2.c1
        have hf := v2.frozen 0
        clear hmt
        by_cases q1 : nA < a
        · gi_wp2_with fail
          refine wpIn_region_quiet_round hmx (by kernel_rfl) (by kernel_rfl) ?_
          repeat (gi_big_quiet_step (fail))
          refine wpQuietIn_nil ?_
          rintro _ ⟨nq, rfl⟩
          gi_wp2_with fail
          refine ⟨hKF.trans ⟨(KeepsOthers.setCell (w'.drewN nq) _ _).size, fun k o _ h hc => (KeepsOthers.setCell (w'.drewN nq) _ _).same k o h hc⟩, hKN.t (KpN.t ⟨bdrewN (Below.refl _ w') nq, fun _ _ h => h⟩ (kpN_blk (v2.drewN nq) (by decide) (by omega) 0 _)), fun z hz => hY.out z hz HN.out, (v0.drewN nq).far (p := ⟨tb, 0, none⟩) (Blk.ne_ v0 v2 (by decide)) _, (v1.drewN nq).far (p := ⟨tb, 0, none⟩) (Blk.ne_ v1 v2 (by decide)) _, ?_, (bdrewN hBB nq).setCell (p := ⟨tb, 0, none⟩) (by simp; omega) _⟩
          rw [hAt.out, if_pos q1]
          exact (v2.drewN nq).set_ 0 _
        · gi_wp2_with fail
          refine wpIn_region_quiet_round hmx (by kernel_rfl) (by kernel_rfl) ?_
          repeat (gi_big_quiet_step (fail))
          refine wpQuietIn_nil ?_
          rintro _ ⟨nq, rfl⟩
          gi_wp2_with fail
          refine ⟨hKF.trans ⟨Nat.le_refl _, fun _ _ _ h _ => h⟩, hKN.t ⟨bdrewN (Below.refl _ w') nq, fun _ _ h => h⟩, fun z hz => hY.out z hz HN.out, v0.drewN nq, v1.drewN nq, ?_, bdrewN hBB nq⟩
          rw [hAt.out, if_neg (by omega)]
          exact v2.drewN nq
      · have HN := Lib.hid (hH.out hmt)
        have h2 := v1.c1
        have hf := v1.frozen 0
        clear hmt
        gi_wp2_with fail
        exact ⟨hKF.trans ⟨(KeepsOthers.setCell w' _ _).size, fun k o _ h hc => (KeepsOthers.setCell w' _ _).same k o h hc⟩, rfl, HN.out, v1.set_ 0 _, hBB.setCell (p := ⟨w.heap.size + 1, 0, none⟩) (by simp) _⟩
  case done =>
    rintro D ys W hD rfl ⟨hp, k0, k1, k2, hB⟩ hK
    obtain ⟨nq0, xb, p, xA, xL, q, HC, HQ, HG1, HG2, HG3, HEE, HXB, hxd, k2⟩ : ∃ nq0 xb p xA xL q, Hid (ch = p ++ ((xb, xA, xL) : Nd) :: q) ∧ Hid (hdP q none = nq0) ∧ Hid (xA + xL ≤ a) ∧ Hid (-10 ≤ xA ∧ 0 ≤ xL ∧ xA + xL ≤ 65536) ∧ Hid (∀ y ∈ q, a + l ≤ y.2.1 ∧ 0 ≤ y.2.2 ∧ y.2.2 ≤ 65536) ∧ Hid (addE rs (a, l) = 0) ∧ Hid (B ≤ xb) ∧
        Blk W xb 48 #[.int .i64 xA, .int .i64 xL, .pointer nq0] ∧ Blk W tb 46 #[.pointer (some ⟨xb, 0, none⟩)] := by
      have hl := HL.out
      obtain ⟨t1, t2, t3⟩ := atI_all rs a ch (ch.length - 1) (Nat.le_refl _)
      obtain ⟨p, xb, xA, xL, q, hch, hpl, hx1⟩ := ch_at2 (ch := ch) (k := atI rs a (chP ch (ch.length - 1))) (by omega)
      have hml := HML.out
      have hno : ∀ n ∈ rs, meetB a l n.1 n.2 = false := fun n hn => by
        obtain ⟨j, hj, rfl⟩ := List.getElem_of_mem hn
        have := hp ⟨j, by omega⟩ (chP_all ch _)
        simpa only [List.getD, List.getElem?_eq_getElem hj, Option.getD_some] using this
      obtain ⟨g1, g2, g3⟩ := at_facts (l := l) hch hpl HE.out HG.out hml.1 hml.2.1 t2 (fun j h1 h2 => t3 j h1 (by omega)) hno
      have hE : addE rs (a, l) = 0 := by
        have : addH rs (a, l) = false := by
          cases hh : addH rs (a, l)
          · rfl
          · obtain ⟨n, hn, hi⟩ := List.any_eq_true.1 hh
            rw [hno n hn] at hi
            cases hi
        simp [addE, hm, this]
      have h9 : Seg W (p ++ ((xb, xA, xL) : Nd) :: q) none := by rw [← hch]; exact (isCh_iff.1 (hr.nx hB).c).2.2
      rw [hx1] at k2
      exact ⟨_, xb, p, xA, xL, q, hch, rfl, g1, g2, g3, hE, HBB.out (xb, xA, xL) (by rw [hch]; simp), (seg_append.1 h9).2.1, k2⟩
    have HIS := Lib.hid (hr.nx hB)
    have HKB := Lib.hid hB
    have HKK := Lib.hid hK
    have HDD := Lib.hid hD
    clear hp hB hK
    obtain ⟨x0, x1, x2⟩ := hxd.c3
    have fx := hxd.frozen 2
    obtain ⟨d0, d1⟩ := k0.c2
    have d2 := k2.c1
    have hmx : Try.prog.follows .mixedOrders = true := by kernel_rfl
    have va : Blk (W.alloc (.cells #[.int .i64 a, .int .i64 l, .pointer nq0] 48)) xb 48 #[.int .i64 xA, .int .i64 xL, .pointer nq0] := hxd.alloc _
    obtain ⟨y0, y1, y2⟩ := va.c3
    have fy := va.frozen 2
    have z2 := (k2.alloc (.cells #[.int .i64 a, .int .i64 l, .pointer nq0] 48)).c1
    gi_wp2_with fail
    gi_region_o
    obtain ⟨Wb, hWb, zx, ze, zt, zs, zc, ZKB, zD⟩ : ∃ Wb, ((W.alloc (.cells #[.int .i64 a, .int .i64 l, .pointer nq0] 48)).setCell ⟨xb, 2, none⟩ (.pointer (some ⟨W.heap.size, 0, none⟩))).drew = Wb ∧ Blk Wb xb 48 #[.int .i64 xA, .int .i64 xL, .pointer (some ⟨W.heap.size, 0, none⟩)] ∧ Hid (Blk Wb (w.heap.size + 1) 35 #[.int .i64 0]) ∧ Blk Wb tb 46 #[.pointer (some ⟨xb, 0, none⟩)] ∧ Hid (Blk Wb sb 50 #[.pointer (some ⟨ndB ch 0, 0, none⟩)]) ∧
        Hid (IsCh Wb (p ++ ((xb, xA, xL) : Nd) :: (W.heap.size, a, l) :: q)) ∧ Hid (KpR B w Wb) ∧ Hid (Wb.heap[D]? = some (.deferred (some []))) := by
      have zx : Blk (((W.alloc (.cells #[.int .i64 a, .int .i64 l, .pointer nq0] 48)).setCell ⟨xb, 2, none⟩ (.pointer (some ⟨W.heap.size, 0, none⟩))).drew) xb 48 #[.int .i64 xA, .int .i64 xL, .pointer (some ⟨W.heap.size, 0, none⟩)] := va.set_ 2 _
      have zm : Blk (((W.alloc (.cells #[.int .i64 a, .int .i64 l, .pointer nq0] 48)).setCell ⟨xb, 2, none⟩ (.pointer (some ⟨W.heap.size, 0, none⟩))).drew) W.heap.size 48 #[.int .i64 a, .int .i64 l, .pointer nq0] := (Blk.new W 48 #[.int .i64 a, .int .i64 l, .pointer nq0]).far (p := ⟨xb, 2, none⟩) (by have := hxd.lt; simp; omega) _
      have zk : ∀ b t cs, b ≠ xb → Blk W b t cs → Blk (((W.alloc (.cells #[.int .i64 a, .int .i64 l, .pointer nq0] 48)).setCell ⟨xb, 2, none⟩ (.pointer (some ⟨W.heap.size, 0, none⟩))).drew) b t cs := fun b t cs hb h => (h.alloc _).far (p := ⟨xb, 2, none⟩) hb _
      refine ⟨_, rfl, zx, zk _ _ _ (Blk.ne_ k1 hxd (by decide)) k1, zk _ _ _ (Blk.ne_ k2 hxd (by decide)) k2, zk _ _ _ (Blk.ne_ HIS.out.s hxd (by decide)) HIS.out.s, ?_, ?_, ?_⟩
      · have h9 := HIS.out.c
        rw [HC.out] at h9
        refine ins_chain h9 ?_ (Nat.le_refl _) zx (fun b cs => zk b _ cs)
        unfold ndC
        rw [HQ.out]
        exact zm
      · exact (KpR.of_below HKB.out hBw).t ((KpR.alloc (Nat.le_trans hBw HKB.out.size) _).t ((KpR.set_ (i := 2) va HXB.out _).t (KpR.drewN B _ 1)))
      · have hDl : D < W.heap.size := (Array.getElem?_eq_some_iff.1 HKK.out).1
        have h1 := (Below.heap_alloc W (.cells #[.int .i64 a, .int .i64 l, .pointer nq0] 48) D hDl).trans HKK.out
        exact (Below.heap_setCell (W.alloc (.cells #[.int .i64 a, .int .i64 l, .pointer nq0] 48)) ⟨xb, 2, none⟩ _ D (by
          rintro rfl
          have h2 : W.heap[D]? = some (.cells #[.int .i64 xA, .int .i64 xL, .pointer nq0] 48 (0, 0)) := hxd
          have h3 := HKK.out
          rw [h2] at h3
          cases h3)).trans h1
    have hNb : B ≤ W.heap.size := Nat.le_trans hBw HKB.out.size
    rw [hWb]
    clear hWb x0 x1 x2 fx d0 d1 d2 va y0 y1 y2 fy z2 hxd k0 k1 k2 HIS HKB HKK
    obtain ⟨x0, x1, x2⟩ := zx.c3
    have d2 := zt.c1
    gi_wp2_with fail
    gi_region_o
    obtain ⟨W4, fbk, hW4, hfbk, FB, HE4, HS4, HC4, HB4, HD4⟩ : ∃ W4 fbk, (Wb.alloc (.cells #[.func (.func 25) #[.pointer (some ⟨W.heap.size, 0, none⟩)] #[], .func (.func 25) #[.pointer (some ⟨xb, 0, none⟩)] #[]] 1)).drew = W4 ∧ Wb.heap.size = fbk ∧ Hid (Blk W4 fbk 1 #[.func (.func 25) #[.pointer (some ⟨W.heap.size, 0, none⟩)] #[], .func (.func 25) #[.pointer (some ⟨xb, 0, none⟩)] #[]]) ∧
        Hid (Blk W4 (w.heap.size + 1) 35 #[.int .i64 0]) ∧ Hid (Blk W4 sb 50 #[.pointer (some ⟨ndB ch 0, 0, none⟩)]) ∧ Hid (IsCh W4 (p ++ ((xb, xA, xL) : Nd) :: (W.heap.size, a, l) :: q)) ∧ Hid (KpR B w W4) ∧ Hid (W4.heap[D]? = some (.deferred (some []))) := by
      have fb : Blk (Wb.alloc (.cells #[.func (.func 25) #[.pointer (some ⟨W.heap.size, 0, none⟩)] #[], .func (.func 25) #[.pointer (some ⟨xb, 0, none⟩)] #[]] 1)).drew Wb.heap.size 1 #[.func (.func 25) #[.pointer (some ⟨W.heap.size, 0, none⟩)] #[], .func (.func 25) #[.pointer (some ⟨xb, 0, none⟩)] #[]] := Blk.new Wb _ _
      have hwF : Below Wb.heap.size Wb (Wb.alloc (.cells #[.func (.func 25) #[.pointer (some ⟨W.heap.size, 0, none⟩)] #[], .func (.func 25) #[.pointer (some ⟨xb, 0, none⟩)] #[]] 1)).drew := (balloc (Below.refl _ Wb) _).drew
      exact ⟨_, _, rfl, rfl, fb, ze.out.nx hwF, zs.out.nx hwF, zc.out.nx hwF, ZKB.out.t (KpR.of_below hwF (Nat.le_trans hBw ZKB.out.2.1)), (hwF.block D (Array.getElem?_eq_some_iff.1 zD.out).1).trans zD.out⟩
    rw [hW4, hfbk]
    clear hW4 hfbk x0 x1 x2 d2 zx ze zt zs zc ZKB zD
    obtain ⟨f0, f1⟩ := FB.out.c2
    have J1 := Lib.hid (join_keeps W4 B (p ++ [(xb, xA, xL)]) (W.heap.size, a, l) q (by rw [List.append_assoc]; exact HC4.out) hNb (by have := HML.out; dsimp only; omega) (fun y hy => by have := HG3.out y hy; omega))
    gi_wp2_with fail
    refine wpIn_loop_rounds 3 ?_
    rw [roundsIn_succ]
    gi_wp2_with (refine ⟨trivial, ?_⟩; gi_at_call 25; refine (callsIn_wide.2 J1.out).mono ?_; rintro e w5 ⟨⟨v, rfl⟩, zc5, zB5, zN5⟩)
    have J2 := Lib.hid (join_keeps w5 B p (xb, xA, xL) (jnN ((W.heap.size, a, l) :: q)) (by have := zc5; rw [List.append_assoc] at this; exact this) HXB.out (by have := HG2.out; dsimp only; omega) (jnN_bd (by have := HML.out; dsimp only; omega) (fun y hy => by have := HG3.out y hy; omega)))
    obtain ⟨f2, f3⟩ := (zB5.2.2 _ _ _ (by decide) FB.out).c2
    have HE5 := Lib.hid (zB5.2.2 _ _ _ (by decide) HE4.out)
    have HS5 := Lib.hid (zB5.2.2 _ _ _ (by decide) HS4.out)
    have HB5 := Lib.hid (HB4.out.t zB5)
    have HD5 := Lib.hid (zN5 D _ HD4.out rfl)
    clear zc5 zB5 zN5 HE4 HS4 HC4 HB4 HD4 J1 FB f0 f1
    rw [roundsIn_succ]
    gi_wp2_with (refine ⟨trivial, ?_⟩; gi_at_call 25; refine (callsIn_wide.2 J2.out).mono ?_; rintro e w6 ⟨⟨v, rfl⟩, zc6, zB6, zN6⟩)
    have HE6 := zB6.2.2 _ _ _ (by decide) HE5.out
    have HS6 := Lib.hid (zB6.2.2 _ _ _ (by decide) HS5.out)
    have HB6 := Lib.hid (HB5.out.t zB6)
    have HD6 := Lib.hid (zN6 D _ HD5.out rfl)
    have HC6 := Lib.hid zc6
    clear zc6 zB6 zN6 HE5 HS5 HB5 HD5 J2 f2 f3
    have d3 := HE6.c1
    have f3 := HE6.frozen 0
    rw [roundsIn_succ]
    gi_wp2_with fail
    have hwc := HE6.set_ 0 (.int .i64 0)
    have hdl : D ≠ w.heap.size + 1 := by have := HDD.out; omega
    have hK2 : (w6.setCell ⟨w.heap.size + 1, 0, none⟩ (.int .i64 0)).heap[D]? = some (.deferred (some [])) := (Below.heap_setCell w6 ⟨w.heap.size + 1, 0, none⟩ _ D hdl).trans HD6.out
    have hc3 := (blk_put (o := .deferred none) (D := D) hwc (Ne.symm hdl)).cell 0
    replace hc3 : ((w6.setCell ⟨w.heap.size + 1, 0, none⟩ (.int .i64 0)).putObj D (.deferred none)).cell? ⟨w.heap.size + 1, 0, none⟩ = some (.int .i64 0) := hc3
    have hkp : ∀ b t cs, Blk w6 b t cs → Blk ((w6.setCell ⟨w.heap.size + 1, 0, none⟩ (.int .i64 0)).putObj D (.deferred none)) b t cs := fun b t cs h => blk_defer hK2 (same_set HE6 h)
    have hIS : ∃ rs', IsSet ((w6.setCell ⟨w.heap.size + 1, 0, none⟩ (.int .i64 0)).putObj D (.deferred none)) B sb rs' ∧ (∀ i, memR rs' i = (memR rs i || inR (a, l) i)) ∧ sumR rs' = sumR rs + l := by
      have hc6 := HC6.out
      have hml := HML.out
      exact add_set HC.out HE.out HBB.out HG.out hNb (hkp _ _ _ HS6.out) ⟨hc6.pos, hc6.inj, fun i hi => hkp _ _ _ (hc6.nd i hi)⟩ hml.1 hml.2.1 (by omega) HG1.out (fun y hy => (HG3.out y hy).1)
    have hKR : KpR B w ((w6.setCell ⟨w.heap.size + 1, 0, none⟩ (.int .i64 0)).putObj D (.deferred none)) := (HB6.out.t (KpR.same HE6 (by omega))).t ⟨(belowK_b (w := w) (Nat.le_refl _) _ D (.deferred (some [])) (.deferred none) (by have := HDD.out; have := hB0.size; omega) hK2 rfl rfl).mono hBw, by simp, fun b t cs _ h => blk_defer hK2 h⟩
    refine ⟨by simp, .inl ⟨_, _, rfl, run_takeDeferred hK2, ?_⟩⟩
    exact ⟨.int .i64 0, by simp [results, Try.results11, go_sem, hc3], ⟨by rw [HEE.out], fun h => absurd HEE.out h, fun _ => hIS, hKR⟩⟩
  case stop =>
    rintro D c pre W hD _ ⟨rfl, hh, k1, hB⟩ hK
    gi_wp2_with fail
    have hc3 := (blk_put (o := .deferred none) (D := D) k1 (by omega)).c1
    have hE : addE rs (a, l) = 9 := by simp [addE, hm, hh]
    have hBf := hB.trans (belowK_b (w := w) (Nat.le_refl _) W D (.deferred (some [])) (.deferred none) (by omega) hK rfl rfl)
    refine ⟨by simp, .inl ⟨_, _, rfl, run_takeDeferred hK, ?_⟩⟩
    exact ⟨.int .i64 9, by simp [results, Try.results11, go_sem, hc3], ⟨by rw [hE], fun _ => IsSet.nx (w := w) ⟨ch, hr, HE.out, HBB.out, HG.out⟩ hBf, fun h => (by rw [hE] at h; cases h), KpR.of_below hBf hBw⟩⟩
end Go.Proofs.Ytpkbmdibiefbdaa
