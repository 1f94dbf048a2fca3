/- Runs: Cut: the walk. -/
import Derived.Test.YtpkbmdibiefbdaaRnK
namespace Go.Proofs.Ytpkbmdibiefbdaa
open Go.RowKit Go.Shelf
set_option linter.unusedVariables false
set_option linter.unusedSimpArgs false

attribute [local go_sem] Oper.semAt_some

theorem cut_nil (w : World) (a l : Int) : Calls Try.prog 12 #[.pointer none, .agg #[.int .i64 a, .int .i64 l]] w fun e W' => e = .returned (.int .i64 1) ∧ Below w.heap.size w W' := by
  have b1 := Blk.new_at (w.alloc (.cells #[.int .i64 a, .int .i64 l] 24)) (w.heap.size + 1) 35 #[.int .i64 0] (by simp)
  have b2 := Blk.new_at (w.alloc (.cells #[.int .i64 a, .int .i64 l] 24)) (w.heap.size + 1) 35 #[.int .i64 1] (by simp)
  have f1 := b1.frozen 0
  have c1 := b1.c1
  have c2 := b2.c1
  have hB : Below w.heap.size w ((w.alloc (.cells #[.int .i64 a, .int .i64 l] 24)).alloc (.cells #[.int .i64 1] 35)) := balloc (balloc (Below.refl _ w) _) _
  go_enter Try.func12, Try.ntmps12
  go_wp2_with fail
  clear b1 b2 f1 c1
  generalize ((w.alloc (.cells #[.int .i64 a, .int .i64 l] 24)).alloc (.cells #[.int .i64 1] 35)) = W0 at *
  exact bodyPost_ret (v := .int .i64 1) (by simp [results, Try.results12, go_sem, c2]) rfl ⟨rfl, hB⟩

theorem cut_arg (w : World) (sb : Nat) (a l : Int) (h : mayB a l = false) : Calls Try.prog 12 #[.pointer (some ⟨sb, 0, none⟩), .agg #[.int .i64 a, .int .i64 l]] w fun e W' => e = .returned (.int .i64 2) ∧ Below w.heap.size w W' := by
  have b0 := (Blk.new w 24 #[.int .i64 a, .int .i64 l]).alloc (.cells #[.int .i64 0] 35)
  have b1 := Blk.new_at (w.alloc (.cells #[.int .i64 a, .int .i64 l] 24)) (w.heap.size + 1) 35 #[.int .i64 0] (by simp)
  have hB : Below w.heap.size w ((w.alloc (.cells #[.int .i64 a, .int .i64 l] 24)).alloc (.cells #[.int .i64 0] 35)) := balloc (balloc (Below.refl _ w) _) _
  obtain ⟨c0, c1⟩ := b0.c2
  have HM := Lib.hid (fun W => may_any W a l)
  rw [h] at HM
  have HB := Lib.hid hB
  have HB1 := Lib.hid b1
  clear hB b0 b1 h
  go_enter Try.func12, Try.ntmps12
  go_wp2_with fail
  refine (HM.out _).mono ?_
  rintro e w1 ⟨rfl, hb⟩
  have hb1 := HB1.out.nx hb
  have c2 := hb1.c1
  have f2 := hb1.frozen 0
  go_wp2_with fail
  have c3 := (hb1.set_ 0 (.int .i64 2)).cell 0
  replace c3 : (w1.setCell ⟨w.heap.size + 1, 0, none⟩ (.int .i64 2)).cell? ⟨w.heap.size + 1, 0, none⟩ = some (.int .i64 2) := c3
  have hB2 := (bnext HB.out hb).setCell (p := ⟨w.heap.size + 1, 0, none⟩) (by simp) (.int .i64 2)
  generalize (w1.setCell ⟨w.heap.size + 1, 0, none⟩ (.int .i64 2)) = W0 at *
  exact bodyPost_ret (v := .int .i64 2) (by simp [results, Try.results12, go_sem, c3]) rfl ⟨rfl, hB2⟩

theorem blk_keep {n : Nat} {X Y : World} {row : Option Nat} (hg : X.grownBy Y row) (hr : ∀ r, row = some r → n ≤ r ∧ ∃ o : Obj, X.heap[r]? = some o ∧ o.isCells = false) {b : Nat} {t : TypeId} {cs : Array Value} (h : Blk X b t cs) : Blk Y b t cs := Blk.grown h hg fun e' => by
  obtain ⟨_, o, ho, hc⟩ := hr b e'.symm
  rw [show X.heap[b]? = _ from h] at ho
  cases ho
  cases hc
theorem isSet_own {β : Type} (n B sb : Nat) (rs : List Rn) : OwnFrom n (fun (_ : β) W => IsSet W B sb rs) := fun s X Y row hs hg hr => by
  obtain ⟨ch, h1, h2⟩ := hs
  exact ⟨ch, ⟨blk_keep hg hr h1.s, ⟨h1.c.pos, h1.c.inj, fun i hi => blk_keep hg hr (h1.c.nd i hi)⟩⟩, h2⟩
theorem kpR_own {β : Type} {n B : Nat} {w : World} (hB : B ≤ w.heap.size) (hn : B ≤ n) : OwnFrom n (fun (_ : β) W => KpR B w W) := fun s X Y row hs hg hr =>
  ⟨ownFrom_below hB hn s X Y row hs.1 hg hr, Nat.le_trans hs.2.1 hg.size, fun b t cs h1 h => blk_keep hg hr (hs.2.2 b t cs h1 h)⟩
theorem same_set {W : World} {b : Nat} {t : TypeId} {v : Value} (h : Blk W b t #[v]) {b' : Nat} {t' : TypeId} {cs : Array Value} (h' : Blk W b' t' cs) : Blk (W.setCell ⟨b, 0, none⟩ v) b' t' cs := by
  by_cases he : b' = b
  · subst he
    have e : some (Obj.cells cs t' (0, 0)) = some (Obj.cells #[v] t (0, 0)) := Eq.trans (Eq.symm h') h
    cases e
    exact h.set_ 0 v
  · exact h'.far (p := ⟨b, 0, none⟩) he v
theorem blk_defer {W : World} {b D : Nat} {t : TypeId} {cs : Array Value} {x : Option (List Deferred)} {o : Obj} (hK : W.heap[D]? = some (.deferred x)) (h : Blk W b t cs) : Blk (W.putObj D o) b t cs := blk_put h (by
  rintro rfl
  have h' : W.heap[b]? = some (.cells cs t (0, 0)) := h
  rw [h'] at hK
  cases hK)
theorem IsSet.defer {W : World} {B sb D : Nat} {rs : List Rn} {x : Option (List Deferred)} {o : Obj} (hK : W.heap[D]? = some (.deferred x)) (h : IsSet W B sb rs) : IsSet (W.putObj D o) B sb rs := by
  obtain ⟨ch, h1, h2⟩ := h
  exact ⟨ch, ⟨blk_defer hK h1.s, ⟨h1.c.pos, h1.c.inj, fun i hi => blk_defer hK (h1.c.nd i hi)⟩⟩, h2⟩
theorem KpR.alloc {B : Nat} {W : World} (hB : B ≤ W.heap.size) (o : Obj) : KpR B W (W.alloc o) := ⟨(Below.refl B W).alloc hB o, by simp, fun _ _ _ _ h => h.alloc o⟩
theorem KpR.same {B : Nat} {W : World} {b : Nat} {t : TypeId} {v : Value} (h : Blk W b t #[v]) (hB : B ≤ b) : KpR B W (W.setCell ⟨b, 0, none⟩ v) := ⟨(Below.refl B W).setCell (p := ⟨b, 0, none⟩) hB v, by simp [World.setCell], fun _ _ _ _ h' => same_set h h'⟩

set_option maxRecDepth 100000 in
set_option maxHeartbeats 8000000 in
theorem cut_ok (w : World) (B sb : Nat) (rs : List Rn) (h : IsSet w B sb rs) (hBw : B ≤ w.heap.size) (a l : Int) (hm : mayB a l = true) :
    Calls Try.prog 12 #[.pointer (some ⟨sb, 0, none⟩), .agg #[.int .i64 a, .int .i64 l]] w (GivesCut B sb rs (a, l) w) := by
  obtain ⟨ch, hr, he, hbb, hg⟩ := h
  have hl := ch_len he
  have hml := hm
  simp only [mayB, decide_eq_true_eq] at hml
  refine (callsIn_wide (n := 3)).1 ?_
  refine callsIn_of_wp_marks Try.func12 rfl trivial ?_ rfl
  simp only [Try.ntmps12, List.size_toArray, List.length_cons, List.length_nil, Nat.reduceAdd, Nat.reduceSub, Array.replicate_succ, Array.replicate_zero, List.push_toArray, List.append_toArray, List.nil_append, List.cons_append]
  have a0 := (Blk.new w 24 #[.int .i64 a, .int .i64 l]).alloc (.cells #[.int .i64 0] 35)
  have a1 := Blk.new_at (w.alloc (.cells #[.int .i64 a, .int .i64 l] 24)) (w.heap.size + 1) 35 #[.int .i64 0] (by simp)
  have hBa : Below w.heap.size w ((w.alloc (.cells #[.int .i64 a, .int .i64 l] 24)).alloc (.cells #[.int .i64 0] 35)) := balloc (balloc (Below.refl _ w) _) _
  obtain ⟨c0, c1⟩ := a0.c2
  have HM := Lib.hid (fun W => may_any W a l)
  rw [hm] at HM
  have HA := Lib.hid hBa
  have A0 := Lib.hid a0
  have A1 := Lib.hid a1
  have HG := Lib.hid hg
  have HE := Lib.hid he
  have HL := Lib.hid hl
  have HBB := Lib.hid hbb
  have HML := Lib.hid hml
  clear a0 a1 hBa hg he hl hbb hml
  gi_wp2_with (refine ⟨trivial, ?_⟩; gi_at_call 23; refine (callsIn_wide.2 (HM.out _)).mono ?_; rintro e wm ⟨rfl, hbm⟩)
  gi_wp2_with (refine ⟨trivial, ?_⟩; gi_at_call 22; refine (callsIn_wide.2 (nodes_any _ _)).mono ?_; rintro e w' ⟨rfl, rfl⟩)
  have b0 := (A0.out.nx hbm).alloc (.cells #[.pointer (some ⟨sb, 0, none⟩)] 26)
  have b1 := (A1.out.nx hbm).alloc (.cells #[.pointer (some ⟨sb, 0, none⟩)] 26)
  have b2 := Blk.new wm 26 #[.pointer (some ⟨sb, 0, none⟩)]
  have hB0 := balloc (bnext HA.out hbm) (.cells #[.pointer (some ⟨sb, 0, none⟩)] 26)
  have hs0 : w.heap.size + 3 ≤ (wm.alloc (.cells #[.pointer (some ⟨sb, 0, none⟩)] 26)).heap.size := by have := hbm.size; simp at this ⊢; omega
  have hnb : wm.heap.size < (wm.alloc (.cells #[.pointer (some ⟨sb, 0, none⟩)] 26)).heap.size := by simp
  clear hbm c0 c1
  generalize wm.heap.size = nb at *
  generalize wm.alloc (.cells #[.pointer (some ⟨sb, 0, none⟩)] 26) = W0 at *
  refine wpIn_rangeFunc_ownG (F := Fence.wide) rfl (by omega) (gf := 29) (lb := #[.pointer (some ⟨nb, 0, none⟩)]) rfl trivial (enters_of Try.func29 (by kernel_rfl) rfl)
    (nodes_seq w W0 sb _ ch hr b2 hB0)
    (fun h k => h.t k) (kpN_b hB0.size) (Below.refl _ _) (fun _ => rfl)
    (fun pre W => (∀ x ∈ pre, ¬ ((rs.getD x.val (0, 0)).1 ≤ a ∧ a + l ≤ (rs.getD x.val (0, 0)).1 + (rs.getD x.val (0, 0)).2)) ∧ Blk W w.heap.size 24 #[.int .i64 a, .int .i64 l] ∧ Blk W (w.heap.size + 1) 35 #[.int .i64 0] ∧ Below w.heap.size w W)
    (fun c pre W => c = .ret ∧ cutH rs (a, l) = true ∧ Blk W (w.heap.size + 1) 35 #[.int .i64 0] ∧ (∃ rs', IsSet W B sb rs' ∧ ((∀ i, memR rs' i = (memR rs i && !inR (a, l) i)) ∧ sumR rs' = sumR rs - l)) ∧ KpR B w W)
    ((pure_own _ _).and ((Own.from (blk_own _ _ _) _).and ((Own.from (blk_own _ _ _) _).and (ownFrom_below (Nat.le_refl _) hB0.size))))
    (fun c => (pure_own _ (fun _ => c = .ret)).and ((pure_own _ (fun _ => cutH rs (a, l) = true)).and ((Own.from (blk_own _ _ _) _).and ((ex_own fun rs' => (isSet_own _ B sb rs').and (pure_own _ _)).and (kpR_own hBw (Nat.le_trans hBw hB0.size))))))
    ⟨fun _ h => (by cases h), b0, b1, hB0⟩
    (fun y => { tmps := #[.pointer (some ⟨sb, 0, none⟩), .agg #[.int .i64 a, .int .i64 l], undef, .pointer (some ⟨w.heap.size, 0, none⟩), .pointer (some ⟨w.heap.size + 1, 0, none⟩), .pointer (some ⟨ndB ch y.val, 0, none⟩), .pointer (some ⟨ndB ch (y.val + 1), 0, none⟩), undef, undef, undef, .bool false, .pointer (some ⟨sb, 0, none⟩), .bool false, .bool false, .agg #[.int .i64 a, .int .i64 l], .bool true, .bool false, .pointer (some ⟨sb, 0, none⟩), .func (.func 29) #[] #[.pointer (some ⟨nb, 0, none⟩)], .pointer (some ⟨ndB ch y.val, 0, none⟩), .pointer (some ⟨ndB ch (y.val + 1), 0, none⟩), undef, undef, undef, undef, undef, undef, undef, undef, undef, undef, undef, undef, undef, undef, undef, undef, undef, undef, undef, undef, undef, undef, undef, undef, undef, undef, undef, undef, undef, undef, undef, undef, undef, undef, undef, undef, undef, undef, undef, undef, undef, undef, undef, undef, undef, undef, undef, undef, undef, undef, undef, undef, undef, undef, undef, undef, undef, undef, undef, undef, undef, undef, undef, undef, undef, undef, undef, undef, undef, undef, undef, undef, undef, undef, undef, undef], defers := [] }) ?assign ?body ?done ?stop
  case assign =>
    intro l y W K hK
    gi_wp2
    exact hK
  case body =>
    rintro ll pre y W ⟨hp, k0, k1, hB⟩ hlt
    have hl := HL.out
    have hy : y.val < rs.length := by have := y.isLt; omega
    obtain ⟨p, x, n, q, hch, _, hx1, hn1, hnn, hxx, hnx⟩ := ch_split (ch := ch) (y := y.val) (by omega)
    have hIs := (hr.nx hB)
    have hnd := hIs.c.nd (y.val + 1) (by omega)
    have hxd := hIs.c.nd y.val (by omega)
    have hmem := rs_mem hy
    have hcn := ch_nd HE.out y.val hy
    rw [hnn] at hcn
    rw [hn1, hnn] at hnd
    rw [hx1, hxx] at hxd
    have hbd := good_bd HG.out hmem
    have hY := Lib.hid (show ∀ z ∈ pre ++ [y], ¬ (n.2.1 ≤ a ∧ a + l ≤ n.2.1 + n.2.2) → ¬ ((rs.getD z.val (0, 0)).1 ≤ a ∧ a + l ≤ (rs.getD z.val (0, 0)).1 + (rs.getD z.val (0, 0)).2) from fun z hz h => by
      rcases List.mem_append.1 hz with hz | hz
      · exact hp z hz
      · simp at hz; subst hz; rw [← hcn]; exact h)
    have hH := Lib.hid (show (n.2.1 ≤ a ∧ a + l ≤ n.2.1 + n.2.2) → cutH rs (a, l) = true from fun h => List.any_eq_true.2 ⟨_, hmem, by rw [← hcn]; simpa using h⟩)
    rw [← hcn] at hbd
    rw [hx1, hn1]
    have hnx' : (if y.val + 1 + 1 < ch.length then some (⟨ndB ch (y.val + 1 + 1), 0, none⟩ : Addr) else none) = hdP q none := hnx
    have hxn : x.1 ≠ n.1 := by
      intro e0
      have := hIs.c.inj y.val (y.val + 1) (by omega) (by omega) (by rw [hx1, hn1]; exact e0)
      omega
    have HXB := Lib.hid (HBB.out x (by rw [hch]; simp))
    have hIS := Lib.hid hIs
    have hCH := Lib.hid hch
    unfold ndN at hnd hxd
    rw [hnx'] at hnd
    rw [if_pos (by omega), hn1] at hxd
    clear hxx hmem hp hcn hnn hn1 hx1 hIs hch hnx hnx' hlt hy hl
    obtain ⟨nb', nA, nL⟩ := n
    obtain ⟨xb, xA, xL⟩ := x
    dsimp only at hnd hbd hxd hY hH hxn HXB
    obtain ⟨nq0, hq0⟩ : ∃ z, hdP q none = z := ⟨_, rfl⟩
    rw [hq0] at hnd
    have HQ := Lib.hid hq0
    clear hq0
    obtain ⟨c0, c1, c2⟩ := hnd.c3
    obtain ⟨x0, x1, x2⟩ := hxd.c3
    have fx := hxd.frozen 2
    obtain ⟨d0, d1⟩ := k0.c2
    have d3 := k1.c1
    have f3 := k1.frozen 0
    have hml := HML.out
    have e1 : wrap64 (nA + nL) = nA + nL := by simp [wrap64]; omega
    have e2 : IntKind.i64.wrap (nA + nL) = nA + nL := by simp [IntKind.wrap, IntKind.signed, IntKind.bits]; omega
    have e3 : wrap64 (a + l) = a + l := by simp [wrap64]; omega
    have e4 : IntKind.i64.wrap (a + l) = a + l := by simp [IntKind.wrap, IntKind.signed, IntKind.bits]; omega
    have hmx : Try.prog.follows .mixedOrders = true := by kernel_rfl
    have HXD := Lib.hid hxd
    have HND := Lib.hid hnd
    have HKB := Lib.hid hB
    have HBD := Lib.hid hbd
    clear hml hxd hnd hB hbd
    dsimp only
    gi_wp2_with fail
    refine wpIn_region_quiet_round hmx (by kernel_rfl) (by kernel_rfl) ?_
    repeat (gi_big_quiet_step (fail))
    refine wpQuietIn_nil ?_
    rintro _ ⟨nq, rfl⟩
    clear e1 e2 e3 e4
    by_cases q1 : a < nA
    · gi_wp2_with fail
      refine wpIn_region_quiet_round hmx (by kernel_rfl) (by kernel_rfl) ?_
      repeat (gi_big_quiet_step (fail))
      refine wpQuietIn_nil ?_
      rintro _ ⟨nr, rfl⟩
      gi_wp2_with fail
      exact ⟨⟨Nat.le_refl _, fun _ _ _ h _ => h⟩, ⟨bdrewN (bdrewN (Below.refl _ _) _) _, fun _ _ h => h⟩, fun x hx => hY.out x hx (by omega), k0, k1, bdrewN (bdrewN HKB.out _) _⟩
    have d1' : decide (a < nA) = false := by simpa using q1
    by_cases q2 : nA + nL < a + l
    · gi_wp2_with fail
      refine wpIn_region_quiet_round hmx (by kernel_rfl) (by kernel_rfl) ?_
      repeat (gi_big_quiet_step (fail))
      refine wpQuietIn_nil ?_
      rintro _ ⟨nr, rfl⟩
      gi_wp2_with fail
      exact ⟨⟨Nat.le_refl _, fun _ _ _ h _ => h⟩, ⟨bdrewN (bdrewN (Below.refl _ _) _) _, fun _ _ h => h⟩, fun x hx => hY.out x hx (by omega), k0, k1, bdrewN (bdrewN HKB.out _) _⟩
    have d2' : decide (nA + nL < a + l) = false := by simpa using q2
    have hml := HML.out
    have hbd := HBD.out
    have e1 : wrap64 (nA + nL - (a + l)) = nA + nL - (a + l) := by simp [wrap64]; omega
    have e2 : IntKind.i64.wrap (nA + nL - (a + l)) = nA + nL - (a + l) := by simp [IntKind.wrap, IntKind.signed, IntKind.bits]; omega
    have e3 : wrap64 (a - nA) = a - nA := by simp [wrap64]; omega
    have e4 : IntKind.i64.wrap (a - nA) = a - nA := by simp [IntKind.wrap, IntKind.signed, IntKind.bits]; omega
    clear hml hbd
    by_cases q3 : a + l < nA + nL
    · gi_wp2_with fail
      refine wpIn_region_quiet_round hmx (by kernel_rfl) (by kernel_rfl) ?_
      repeat (gi_big_quiet_step (fail))
      refine wpQuietIn_nil ?_
      rintro _ ⟨nr, rfl⟩
      have va : Blk ((W.drewN (nq + nr)).alloc (.cells #[.int .i64 (a + l), .int .i64 (nA + nL - (a + l)), .pointer nq0] 48)) xb 48 #[.int .i64 xA, .int .i64 xL, .pointer (some ⟨nb', 0, none⟩)] := (HXD.out.drewN (nq + nr)).alloc (.cells #[.int .i64 (a + l), .int .i64 (nA + nL - (a + l)), .pointer nq0] 48)
      have ve : Blk ((W.drewN (nq + nr)).alloc (.cells #[.int .i64 (a + l), .int .i64 (nA + nL - (a + l)), .pointer nq0] 48)) (w.heap.size + 1) 35 #[.int .i64 0] := (k1.drewN (nq + nr)).alloc (.cells #[.int .i64 (a + l), .int .i64 (nA + nL - (a + l)), .pointer nq0] 48)
      have vr : Blk ((W.drewN (nq + nr)).alloc (.cells #[.int .i64 (a + l), .int .i64 (nA + nL - (a + l)), .pointer nq0] 48)) w.heap.size 24 #[.int .i64 a, .int .i64 l] := (k0.drewN (nq + nr)).alloc (.cells #[.int .i64 (a + l), .int .i64 (nA + nL - (a + l)), .pointer nq0] 48)
      have vn : Blk ((W.drewN (nq + nr)).alloc (.cells #[.int .i64 (a + l), .int .i64 (nA + nL - (a + l)), .pointer nq0] 48)) nb' 48 #[.int .i64 nA, .int .i64 nL, .pointer nq0] := (HND.out.drewN (nq + nr)).alloc (.cells #[.int .i64 (a + l), .int .i64 (nA + nL - (a + l)), .pointer nq0] 48)
      have vk : ∀ b t cs, b ≠ xb → Blk W b t cs → Blk ((W.drewN (nq + nr)).alloc (.cells #[.int .i64 (a + l), .int .i64 (nA + nL - (a + l)), .pointer nq0] 48)) b t cs := fun b t cs _ h => (h.drewN (nq + nr)).alloc (.cells #[.int .i64 (a + l), .int .i64 (nA + nL - (a + l)), .pointer nq0] 48)
      have vx2 := va.cell 2
      have vxf := va.frozen 2
      replace vx2 : ((W.drewN (nq + nr)).alloc (.cells #[.int .i64 (a + l), .int .i64 (nA + nL - (a + l)), .pointer nq0] 48)).cell? ⟨xb, 2, none⟩ = some (.pointer (some ⟨nb', 0, none⟩)) := vx2
      have vm := (Blk.new_at (W.drewN (nq + nr)) W.heap.size 48 #[.int .i64 (a + l), .int .i64 (nA + nL - (a + l)), .pointer nq0] rfl).far (p := ⟨xb, 2, none⟩) (by have := HXD.out.lt; simp; omega) (.pointer (some ⟨W.heap.size, 0, none⟩))
      gi_wp2_with fail
      have zx : Blk (((W.drewN (nq + nr)).alloc (.cells #[.int .i64 (a + l), .int .i64 (nA + nL - (a + l)), .pointer nq0] 48)).setCell ⟨xb, 2, none⟩ (.pointer (some ⟨W.heap.size, 0, none⟩))) xb 48 #[.int .i64 xA, .int .i64 xL, .pointer (some ⟨W.heap.size, 0, none⟩)] := va.set_ 2 _
      have zn : Blk (((W.drewN (nq + nr)).alloc (.cells #[.int .i64 (a + l), .int .i64 (nA + nL - (a + l)), .pointer nq0] 48)).setCell ⟨xb, 2, none⟩ (.pointer (some ⟨W.heap.size, 0, none⟩))) nb' 48 #[.int .i64 nA, .int .i64 nL, .pointer nq0] := vn.far (p := ⟨xb, 2, none⟩) (Ne.symm hxn) _
      have zr := vr.far (p := ⟨xb, 2, none⟩) (Blk.ne_ vr va (by decide)) (.pointer (some ⟨W.heap.size, 0, none⟩))
      have ze := ve.far (p := ⟨xb, 2, none⟩) (Blk.ne_ ve va (by decide)) (.pointer (some ⟨W.heap.size, 0, none⟩))
      have zk : ∀ b t cs, b ≠ xb → Blk W b t cs → Blk (((W.drewN (nq + nr)).alloc (.cells #[.int .i64 (a + l), .int .i64 (nA + nL - (a + l)), .pointer nq0] 48)).setCell ⟨xb, 2, none⟩ (.pointer (some ⟨W.heap.size, 0, none⟩))) b t cs := fun b t cs hb h => (vk b t cs hb h).far (p := ⟨xb, 2, none⟩) hb _
      have zs : W.heap.size ≤ (((W.drewN (nq + nr)).alloc (.cells #[.int .i64 (a + l), .int .i64 (nA + nL - (a + l)), .pointer nq0] 48)).setCell ⟨xb, 2, none⟩ (.pointer (some ⟨W.heap.size, 0, none⟩))).heap.size := by simp [World.setCell]
      have zM : Seg (((W.drewN (nq + nr)).alloc (.cells #[.int .i64 (a + l), .int .i64 (nA + nL - (a + l)), .pointer nq0] 48)).setCell ⟨xb, 2, none⟩ (.pointer (some ⟨W.heap.size, 0, none⟩))) [((W.heap.size, a + l, nA + nL - (a + l)) : Nd)] (hdP q none) := ⟨by rw [HQ.out]; exact vm, trivial⟩
      have zh : hdP ([((W.heap.size, a + l, nA + nL - (a + l)) : Nd)] ++ q) none = (some ⟨W.heap.size, 0, none⟩) := rfl
      have zl : ∀ m ∈ [((W.heap.size, a + l, nA + nL - (a + l)) : Nd)], W.heap.size ≤ m.1 ∧ m.1 < (((W.drewN (nq + nr)).alloc (.cells #[.int .i64 (a + l), .int .i64 (nA + nL - (a + l)), .pointer nq0] 48)).setCell ⟨xb, 2, none⟩ (.pointer (some ⟨W.heap.size, 0, none⟩))).heap.size := fun m hm => by simp at hm; subst hm; simp [World.setCell]
      have zn2 : (([((W.heap.size, a + l, nA + nL - (a + l)) : Nd)]).map Prod.fst).Nodup := by simp
      have zc : ([((W.heap.size, a + l, nA + nL - (a + l)) : Nd)]).map Prod.snd = (if a + l < nA + nL then [(a + l, nA + nL - (a + l))] else []) := by simp [q3]
      have zB : KpR B W (((W.drewN (nq + nr)).alloc (.cells #[.int .i64 (a + l), .int .i64 (nA + nL - (a + l)), .pointer nq0] 48)).setCell ⟨xb, 2, none⟩ (.pointer (some ⟨W.heap.size, 0, none⟩))) := (KpR.drewN B W (nq + nr)).t ((KpR.alloc (W := W.drewN (nq + nr)) (Nat.le_trans hBw HKB.out.size) _).t (KpR.set_ (i := 2) va HXB.out _))
      have zK : KeepsFrom W0.heap.size W (((W.drewN (nq + nr)).alloc (.cells #[.int .i64 (a + l), .int .i64 (nA + nL - (a + l)), .pointer nq0] 48)).setCell ⟨xb, 2, none⟩ (.pointer (some ⟨W.heap.size, 0, none⟩))) := ⟨Nat.le_trans (by simp) ((KeepsOthers.setCell ((W.drewN (nq + nr)).alloc (.cells #[.int .i64 (a + l), .int .i64 (nA + nL - (a + l)), .pointer nq0] 48)) _ _).size), fun k o _ h hc => (KeepsOthers.setCell ((W.drewN (nq + nr)).alloc (.cells #[.int .i64 (a + l), .int .i64 (nA + nL - (a + l)), .pointer nq0] 48)) _ _).same k o ((Below.heap_alloc (W.drewN (nq + nr)) _ k (Array.getElem?_eq_some_iff.1 h).1).trans h) hc⟩
      clear va ve vr vn vk vx2 vxf vm
      clear c0 c1 c2 x0 x1 x2 fx d0 d1 d3 f3
      generalize (((W.drewN (nq + nr)).alloc (.cells #[.int .i64 (a + l), .int .i64 (nA + nL - (a + l)), .pointer nq0] 48)).setCell ⟨xb, 2, none⟩ (.pointer (some ⟨W.heap.size, 0, none⟩))) = Wb at *
      generalize [((W.heap.size, a + l, nA + nL - (a + l)) : Nd)] = M2 at *
      generalize hrp : (some ⟨W.heap.size, 0, none⟩ : Option Addr) = rp at *
      obtain ⟨d0, d1⟩ := zr.c2
      obtain ⟨c0, c1, c2⟩ := zn.c3
      have d3 := ze.c1
      have f3 := ze.frozen 0
      by_cases q4 : nA < a
      · gi_wp2_with fail
        refine wpIn_region_quiet_round hmx (by kernel_rfl) (by kernel_rfl) ?_
        repeat (gi_big_quiet_step (fail))
        refine wpQuietIn_nil ?_
        rintro _ ⟨n4, rfl⟩
        have zx2 := zx.drewN n4
        have ze2 := ze.drewN n4
        obtain ⟨y0, y1, y2⟩ := zx2.c3
        have yf := zx2.frozen 2
        gi_wp2_with fail
        refine wpIn_region_any_round hmx (by kernel_rfl) ?_
        refine wpAnyIn_take (i := 0) (v := ?_) rfl rfl (by decide +kernel) (by decide +kernel) (by decide +kernel) (fun _ _ _ h => h) ⟨Or.inl ⟨by rfl, ?_⟩, fun _ => rfl⟩ ?_
        rotate_left
        · intro w; go_simp; try (with_reducible rfl)
        refine wpAnyIn_take (i := 1) (v := ?_) rfl rfl (by decide +kernel) (by decide +kernel) (by decide +kernel) (fun _ _ _ h => h) ⟨Or.inl ⟨by rfl, ?_⟩, fun _ => rfl⟩ ?_
        rotate_left
        · intro w; go_simp; try (with_reducible rfl)
        refine wpAnyIn_take (i := 2) (v := ?_) rfl rfl (by decide +kernel) (by decide +kernel) (by decide +kernel) (fun _ _ _ h => h) ⟨Or.inl ⟨by rfl, ?_⟩, fun _ => rfl⟩ ?_
        rotate_left
        · intro w; go_simp; try (with_reducible rfl)
        refine wpAnyIn_take (i := 3) (v := ?_) rfl rfl (by decide +kernel) (by decide +kernel) (by decide +kernel) (fun _ _ _ h => h) ⟨Or.inl ⟨by rfl, ?_⟩, fun _ => rfl⟩ ?_
        rotate_left
        · intro w; go_simp; try (with_reducible rfl)
        refine wpAnyIn_take (i := 4) (v := ?_) rfl rfl (by decide +kernel) (by decide +kernel) (by decide +kernel) (fun _ _ _ h => h) ⟨Or.inl ⟨by rfl, ?_⟩, fun _ => rfl⟩ ?_
        rotate_left
        · intro w; go_simp; try (with_reducible rfl)
        refine wpAnyIn_take (i := 6) (v := ?_) rfl rfl (by decide +kernel) (by decide +kernel) (by decide +kernel) (fun _ _ _ h => h) ⟨Or.inl ⟨by rfl, ?_⟩, fun _ => rfl⟩ ?_
        rotate_left
        · intro w; go_simp; try (with_reducible rfl)
        refine wpAnyIn_take (i := 8) (v := ?_) rfl rfl (by decide +kernel) (by decide +kernel) (by decide +kernel) (fun _ _ _ h => h) ⟨Or.inl ⟨by rfl, ?_⟩, fun _ => rfl⟩ ?_
        rotate_left
        · intro w; go_simp; try (with_reducible rfl)
        refine wpAnyIn_take (i := 9) (v := ?_) rfl rfl (by decide +kernel) (by decide +kernel) (by decide +kernel) (fun _ _ _ h => h) ⟨Or.inl ⟨by rfl, ?_⟩, fun _ => rfl⟩ ?_
        rotate_left
        · intro w; go_simp; try (with_reducible rfl)
        refine wpAnyIn_take (i := 10) (v := ?_) rfl rfl (by decide +kernel) (by decide +kernel) (by decide +kernel) (fun _ _ _ h => h) ⟨Or.inl ⟨by rfl, ?_⟩, fun _ => rfl⟩ ?_
        rotate_left
        · intro w; go_simp; try (with_reducible rfl)
        refine wpAnyIn_take (i := 11) (v := ?_) rfl rfl (by decide +kernel) (by decide +kernel) (by decide +kernel) (fun _ _ _ h => h) ⟨Or.inl ⟨by rfl, ?_⟩, fun _ => rfl⟩ ?_
        rotate_left
        · intro w; go_simp; try (with_reducible rfl)
        refine wpAnyIn_take (i := 15) (v := ?_) rfl rfl (by decide +kernel) (by decide +kernel) (by decide +kernel) (fun _ _ _ h => h) ⟨Or.inl ⟨by rfl, ?_⟩, fun _ => rfl⟩ ?_
        rotate_left
        · intro w; go_simp; try (with_reducible rfl)
        have zw : Blk ((Wb.drewN (n4 + 1)).alloc (.cells #[.int .i64 nA, .int .i64 (a - nA), .pointer rp] 48)) xb 48 #[.int .i64 xA, .int .i64 xL, .pointer rp] := (zx.drewN (n4 + 1)).alloc _
        obtain ⟨w0', w1', w2'⟩ := zw.c3
        have wf' := zw.frozen 2
        have ze3 : Blk (((Wb.drewN (n4 + 1)).alloc (.cells #[.int .i64 nA, .int .i64 (a - nA), .pointer rp] 48)).setCell ⟨xb, 2, none⟩ (.pointer (some ⟨Wb.heap.size, 0, none⟩))) (w.heap.size + 1) 35 #[.int .i64 0] := ((ze.drewN (n4 + 1)).alloc _).far (p := ⟨xb, 2, none⟩) (Blk.ne_ ze2 zx2 (by decide)) _
        have e30 := ze3.c1
        have e3f := ze3.frozen 0
        have HF : Hid (ownPostG W0.heap.size (KpN w.heap.size) (fun pre W => (∀ x ∈ pre, ¬ ((rs.getD x.val (0, 0)).1 ≤ a ∧ a + l ≤ (rs.getD x.val (0, 0)).1 + (rs.getD x.val (0, 0)).2)) ∧ Blk W w.heap.size 24 #[.int .i64 a, .int .i64 l] ∧ Blk W (w.heap.size + 1) 35 #[.int .i64 0] ∧ Below w.heap.size w W) (fun c pre W => c = .ret ∧ cutH rs (a, l) = true ∧ Blk W (w.heap.size + 1) 35 #[.int .i64 0] ∧ (∃ rs', IsSet W B sb rs' ∧ ((∀ i, memR rs' i = (memR rs i && !inR (a, l) i)) ∧ sumR rs' = sumR rs - l)) ∧ KpR B w W) (pre ++ [y]) W Exit.ret { tmps := #[], defers := [] } ((((Wb.drewN (n4 + 1)).alloc (.cells #[.int .i64 nA, .int .i64 (a - nA), .pointer rp] 48)).setCell ⟨xb, 2, none⟩ (.pointer (some ⟨Wb.heap.size, 0, none⟩))).setCell ⟨w.heap.size + 1, 0, none⟩ (.int .i64 0))) := by
          have vk4 : KpR B Wb (((Wb.drewN (n4 + 1)).alloc (.cells #[.int .i64 nA, .int .i64 (a - nA), .pointer rp] 48)).setCell ⟨xb, 2, none⟩ (.pointer (some ⟨Wb.heap.size, 0, none⟩))) := (KpR.drewN B Wb (n4 + 1)).t (((KpR.alloc (W := Wb.drewN (n4 + 1)) (Nat.le_trans hBw (Nat.le_trans HKB.out.size zs)) _).t (KpR.set_ (i := 2) zw HXB.out _)))
          have hM1 := (Blk.new_at (Wb.drewN (n4 + 1)) Wb.heap.size 48 #[.int .i64 nA, .int .i64 (a - nA), .pointer rp] rfl).far (p := ⟨xb, 2, none⟩) (by have := zx.lt; simp; omega) (.pointer (some ⟨Wb.heap.size, 0, none⟩))
          have hkb : ∀ b t cs, b ≠ xb → Blk Wb b t cs → Blk (((Wb.drewN (n4 + 1)).alloc (.cells #[.int .i64 nA, .int .i64 (a - nA), .pointer rp] 48)).setCell ⟨xb, 2, none⟩ (.pointer (some ⟨Wb.heap.size, 0, none⟩))) b t cs := fun b t cs hb h => ((h.drewN (n4 + 1)).alloc _).far (p := ⟨xb, 2, none⟩) hb _
          have hxx : Blk (((Wb.drewN (n4 + 1)).alloc (.cells #[.int .i64 nA, .int .i64 (a - nA), .pointer rp] 48)).setCell ⟨xb, 2, none⟩ (.pointer (some ⟨Wb.heap.size, 0, none⟩))) xb 48 #[.int .i64 xA, .int .i64 xL, .pointer (some ⟨Wb.heap.size, 0, none⟩)] := zw.set_ 2 _
          have hKK : KeepsFrom W0.heap.size Wb (((Wb.drewN (n4 + 1)).alloc (.cells #[.int .i64 nA, .int .i64 (a - nA), .pointer rp] 48)).setCell ⟨xb, 2, none⟩ (.pointer (some ⟨Wb.heap.size, 0, none⟩))) := ⟨Nat.le_trans (by simp) ((KeepsOthers.setCell ((Wb.drewN (n4 + 1)).alloc (.cells #[.int .i64 nA, .int .i64 (a - nA), .pointer rp] 48)) _ _).size), fun k o _ h hc => (KeepsOthers.setCell ((Wb.drewN (n4 + 1)).alloc (.cells #[.int .i64 nA, .int .i64 (a - nA), .pointer rp] 48)) _ _).same k o ((Below.heap_alloc (Wb.drewN (n4 + 1)) _ k (Array.getElem?_eq_some_iff.1 h).1).trans h) hc⟩
          generalize (((Wb.drewN (n4 + 1)).alloc (.cells #[.int .i64 nA, .int .i64 (a - nA), .pointer rp] 48)).setCell ⟨xb, 2, none⟩ (.pointer (some ⟨Wb.heap.size, 0, none⟩))) = Wc at *
          have hkk : ∀ b t cs, b ≠ xb → Blk W b t cs → Blk (Wc.setCell ⟨w.heap.size + 1, 0, none⟩ (.int .i64 0)) b t cs := fun b t cs hb h => same_set ze3 (hkb b t cs hb (zk b t cs hb h))
          have hm3 : Seg (Wc.setCell ⟨w.heap.size + 1, 0, none⟩ (.int .i64 0)) ((Wb.heap.size, nA, a - nA) :: M2) (hdP q none) := by
            refine ⟨?_, zM.keep fun m hm cs h => same_set ze3 (hkb _ _ _ ?_ h)⟩
            · have := same_set ze3 hM1
              rw [← hdP_append, zh]
              exact this
            · have := (zl m hm).1
              have := HXD.out.lt
              omega
          refine ⟨zK.trans (hKK.trans ((KeepsOthers.setCell _ _ _).from _)), rfl, hH.out ⟨by omega, by omega⟩, ze3.set_ 0 _, ?_, ((KpR.of_below HKB.out hBw).t zB).t (vk4.t (KpR.same ze3 (by omega)))⟩
          refine cut_set (M := (Wb.heap.size, nA, a - nA) :: M2) (r := (a, l)) hIS.out HE.out HBB.out HG.out (Nat.le_trans hBw HKB.out.size) hCH.out hm3 ?_ ?_ ?_ (same_set ze3 hxx) hkk (by dsimp only; omega) (by dsimp only; omega) HML.out.2.1
          · rw [List.map_cons, List.nodup_cons]
            refine ⟨fun hm => ?_, zn2⟩
            obtain ⟨m, hm, hme⟩ := List.mem_map.1 hm
            have := (zl m hm).2
            dsimp only at hme
            omega
          · intro m hm
            rcases List.mem_cons.1 hm with rfl | hm
            · exact zs
            · exact (zl m hm).1
          · rw [List.map_cons, zc, cutM]
            dsimp only
            rw [if_pos q4]
            rfl
        refine wpAnyIn_ready (rs := [5, 7, 12]) (by kernel_rfl) (by simp) ?_
        refine AllReadyIn.cons rfl (fun K hK => ?_) (AllReadyIn.cons rfl (fun K hK => ?_) (AllReadyIn.cons rfl (fun K hK => ?_) AllReadyIn.nil))
        · skip
          go_simp
          refine hK _ _ ?_
          clear hK K
          refine wpAnyIn_ready (rs := [7, 12]) (by kernel_rfl) (by simp) ?_
          refine AllReadyIn.cons rfl (fun K hK => ?_) (AllReadyIn.cons rfl (fun K hK => ?_) AllReadyIn.nil)
          · skip
            go_simp
            refine hK _ _ ?_
            clear hK K
            refine wpAnyIn_ready (rs := [12]) (by kernel_rfl) (by simp) ?_
            refine AllReadyIn.cons rfl (fun K hK => ?_) AllReadyIn.nil
            go_simp
            refine hK _ _ ?_
            clear hK K
            refine wpAnyIn_take (i := 13) (v := ?_) rfl rfl (by decide +kernel) (by decide +kernel) (by decide +kernel) (fun _ _ _ h => h) ⟨Or.inl ⟨by rfl, ?_⟩, fun _ => rfl⟩ ?_
            rotate_left
            · intro w; go_simp; try (with_reducible rfl)
            refine wpAnyIn_take (i := 14) (v := ?_) rfl rfl (by decide +kernel) (by decide +kernel) (by decide +kernel) (fun _ _ _ h => h) ⟨Or.inl ⟨by rfl, ?_⟩, fun _ => rfl⟩ ?_
            rotate_left
            · intro w; go_simp; try (with_reducible rfl)
            refine wpAnyIn_take (i := 16) (v := ?_) rfl rfl (by decide +kernel) (by decide +kernel) (by decide +kernel) (fun _ _ _ h => h) ⟨Or.inl ⟨by rfl, ?_⟩, fun _ => rfl⟩ ?_
            rotate_left
            · intro w; go_simp; try (with_reducible rfl)
            refine wpAnyIn_ready (rs := [17]) (by kernel_rfl) (by simp) ?_
            refine AllReadyIn.cons rfl (fun K hK => ?_) AllReadyIn.nil
            go_simp
            refine hK _ _ ?_
            clear hK K
            refine wpAnyIn_take (i := 18) (v := ?_) rfl rfl (by decide +kernel) (by decide +kernel) (by decide +kernel) (fun _ _ _ h => h) ⟨Or.inl ⟨by rfl, ?_⟩, fun _ => rfl⟩ ?_
            rotate_left
            · intro w; go_simp; try (with_reducible rfl)
            refine wpAnyIn_take (i := 19) (v := ?_) rfl rfl (by decide +kernel) (by decide +kernel) (by decide +kernel) (fun _ _ _ h => h) ⟨Or.inl ⟨by rfl, ?_⟩, fun _ => rfl⟩ ?_
            rotate_left
            · intro w; go_simp; try (with_reducible rfl)
            refine wpAnyIn_ready (rs := [20]) (by kernel_rfl) (by simp) ?_
            refine AllReadyIn.cons rfl (fun K hK => ?_) AllReadyIn.nil
            go_simp
            refine hK _ _ ?_
            clear hK K
            refine wpAnyIn_done (by kernel_rfl) ?_ _
            gi_wp2_with fail
            exact HF.out
          · skip
            go_simp
            refine hK _ _ ?_
            clear hK K
            refine wpAnyIn_ready (rs := [7]) (by kernel_rfl) (by simp) ?_
            refine AllReadyIn.cons rfl (fun K hK => ?_) AllReadyIn.nil
            go_simp
            refine hK _ _ ?_
            clear hK K
            refine wpAnyIn_take (i := 13) (v := ?_) rfl rfl (by decide +kernel) (by decide +kernel) (by decide +kernel) (fun _ _ _ h => h) ⟨Or.inl ⟨by rfl, ?_⟩, fun _ => rfl⟩ ?_
            rotate_left
            · intro w; go_simp; try (with_reducible rfl)
            refine wpAnyIn_take (i := 14) (v := ?_) rfl rfl (by decide +kernel) (by decide +kernel) (by decide +kernel) (fun _ _ _ h => h) ⟨Or.inl ⟨by rfl, ?_⟩, fun _ => rfl⟩ ?_
            rotate_left
            · intro w; go_simp; try (with_reducible rfl)
            refine wpAnyIn_take (i := 16) (v := ?_) rfl rfl (by decide +kernel) (by decide +kernel) (by decide +kernel) (fun _ _ _ h => h) ⟨Or.inl ⟨by rfl, ?_⟩, fun _ => rfl⟩ ?_
            rotate_left
            · intro w; go_simp; try (with_reducible rfl)
            refine wpAnyIn_ready (rs := [17]) (by kernel_rfl) (by simp) ?_
            refine AllReadyIn.cons rfl (fun K hK => ?_) AllReadyIn.nil
            go_simp
            refine hK _ _ ?_
            clear hK K
            refine wpAnyIn_take (i := 18) (v := ?_) rfl rfl (by decide +kernel) (by decide +kernel) (by decide +kernel) (fun _ _ _ h => h) ⟨Or.inl ⟨by rfl, ?_⟩, fun _ => rfl⟩ ?_
            rotate_left
            · intro w; go_simp; try (with_reducible rfl)
            refine wpAnyIn_take (i := 19) (v := ?_) rfl rfl (by decide +kernel) (by decide +kernel) (by decide +kernel) (fun _ _ _ h => h) ⟨Or.inl ⟨by rfl, ?_⟩, fun _ => rfl⟩ ?_
            rotate_left
            · intro w; go_simp; try (with_reducible rfl)
            refine wpAnyIn_ready (rs := [20]) (by kernel_rfl) (by simp) ?_
            refine AllReadyIn.cons rfl (fun K hK => ?_) AllReadyIn.nil
            go_simp
            refine hK _ _ ?_
            clear hK K
            refine wpAnyIn_done (by kernel_rfl) ?_ _
            gi_wp2_with fail
            exact HF.out
        · skip
          go_simp
          refine hK _ _ ?_
          clear hK K
          refine wpAnyIn_ready (rs := [5, 12]) (by kernel_rfl) (by simp) ?_
          refine AllReadyIn.cons rfl (fun K hK => ?_) (AllReadyIn.cons rfl (fun K hK => ?_) AllReadyIn.nil)
          · skip
            go_simp
            refine hK _ _ ?_
            clear hK K
            refine wpAnyIn_ready (rs := [12]) (by kernel_rfl) (by simp) ?_
            refine AllReadyIn.cons rfl (fun K hK => ?_) AllReadyIn.nil
            go_simp
            refine hK _ _ ?_
            clear hK K
            refine wpAnyIn_take (i := 13) (v := ?_) rfl rfl (by decide +kernel) (by decide +kernel) (by decide +kernel) (fun _ _ _ h => h) ⟨Or.inl ⟨by rfl, ?_⟩, fun _ => rfl⟩ ?_
            rotate_left
            · intro w; go_simp; try (with_reducible rfl)
            refine wpAnyIn_take (i := 14) (v := ?_) rfl rfl (by decide +kernel) (by decide +kernel) (by decide +kernel) (fun _ _ _ h => h) ⟨Or.inl ⟨by rfl, ?_⟩, fun _ => rfl⟩ ?_
            rotate_left
            · intro w; go_simp; try (with_reducible rfl)
            refine wpAnyIn_take (i := 16) (v := ?_) rfl rfl (by decide +kernel) (by decide +kernel) (by decide +kernel) (fun _ _ _ h => h) ⟨Or.inl ⟨by rfl, ?_⟩, fun _ => rfl⟩ ?_
            rotate_left
            · intro w; go_simp; try (with_reducible rfl)
            refine wpAnyIn_ready (rs := [17]) (by kernel_rfl) (by simp) ?_
            refine AllReadyIn.cons rfl (fun K hK => ?_) AllReadyIn.nil
            go_simp
            refine hK _ _ ?_
            clear hK K
            refine wpAnyIn_take (i := 18) (v := ?_) rfl rfl (by decide +kernel) (by decide +kernel) (by decide +kernel) (fun _ _ _ h => h) ⟨Or.inl ⟨by rfl, ?_⟩, fun _ => rfl⟩ ?_
            rotate_left
            · intro w; go_simp; try (with_reducible rfl)
            refine wpAnyIn_take (i := 19) (v := ?_) rfl rfl (by decide +kernel) (by decide +kernel) (by decide +kernel) (fun _ _ _ h => h) ⟨Or.inl ⟨by rfl, ?_⟩, fun _ => rfl⟩ ?_
            rotate_left
            · intro w; go_simp; try (with_reducible rfl)
            refine wpAnyIn_ready (rs := [20]) (by kernel_rfl) (by simp) ?_
            refine AllReadyIn.cons rfl (fun K hK => ?_) AllReadyIn.nil
            go_simp
            refine hK _ _ ?_
            clear hK K
            refine wpAnyIn_done (by kernel_rfl) ?_ _
            gi_wp2_with fail
            exact HF.out
          · skip
            go_simp
            refine hK _ _ ?_
            clear hK K
            refine wpAnyIn_take (i := 13) (v := ?_) rfl rfl (by decide +kernel) (by decide +kernel) (by decide +kernel) (fun _ _ _ h => h) ⟨Or.inl ⟨by rfl, ?_⟩, fun _ => rfl⟩ ?_
            rotate_left
            · intro w; go_simp; try (with_reducible rfl)
            refine wpAnyIn_ready (rs := [5]) (by kernel_rfl) (by simp) ?_
            refine AllReadyIn.cons rfl (fun K hK => ?_) AllReadyIn.nil
            go_simp
            refine hK _ _ ?_
            clear hK K
            refine wpAnyIn_take (i := 14) (v := ?_) rfl rfl (by decide +kernel) (by decide +kernel) (by decide +kernel) (fun _ _ _ h => h) ⟨Or.inl ⟨by rfl, ?_⟩, fun _ => rfl⟩ ?_
            rotate_left
            · intro w; go_simp; try (with_reducible rfl)
            refine wpAnyIn_take (i := 16) (v := ?_) rfl rfl (by decide +kernel) (by decide +kernel) (by decide +kernel) (fun _ _ _ h => h) ⟨Or.inl ⟨by rfl, ?_⟩, fun _ => rfl⟩ ?_
            rotate_left
            · intro w; go_simp; try (with_reducible rfl)
            refine wpAnyIn_ready (rs := [17]) (by kernel_rfl) (by simp) ?_
            refine AllReadyIn.cons rfl (fun K hK => ?_) AllReadyIn.nil
            go_simp
            refine hK _ _ ?_
            clear hK K
            refine wpAnyIn_take (i := 18) (v := ?_) rfl rfl (by decide +kernel) (by decide +kernel) (by decide +kernel) (fun _ _ _ h => h) ⟨Or.inl ⟨by rfl, ?_⟩, fun _ => rfl⟩ ?_
            rotate_left
            · intro w; go_simp; try (with_reducible rfl)
            refine wpAnyIn_take (i := 19) (v := ?_) rfl rfl (by decide +kernel) (by decide +kernel) (by decide +kernel) (fun _ _ _ h => h) ⟨Or.inl ⟨by rfl, ?_⟩, fun _ => rfl⟩ ?_
            rotate_left
            · intro w; go_simp; try (with_reducible rfl)
            refine wpAnyIn_ready (rs := [20]) (by kernel_rfl) (by simp) ?_
            refine AllReadyIn.cons rfl (fun K hK => ?_) AllReadyIn.nil
            go_simp
            refine hK _ _ ?_
            clear hK K
            refine wpAnyIn_done (by kernel_rfl) ?_ _
            gi_wp2_with fail
            exact HF.out
        · skip
          go_simp
          refine hK _ _ ?_
          clear hK K
          refine wpAnyIn_ready (rs := [5, 7]) (by kernel_rfl) (by simp) ?_
          refine AllReadyIn.cons rfl (fun K hK => ?_) (AllReadyIn.cons rfl (fun K hK => ?_) AllReadyIn.nil)
          · skip
            go_simp
            refine hK _ _ ?_
            clear hK K
            refine wpAnyIn_ready (rs := [7]) (by kernel_rfl) (by simp) ?_
            refine AllReadyIn.cons rfl (fun K hK => ?_) AllReadyIn.nil
            go_simp
            refine hK _ _ ?_
            clear hK K
            refine wpAnyIn_take (i := 13) (v := ?_) rfl rfl (by decide +kernel) (by decide +kernel) (by decide +kernel) (fun _ _ _ h => h) ⟨Or.inl ⟨by rfl, ?_⟩, fun _ => rfl⟩ ?_
            rotate_left
            · intro w; go_simp; try (with_reducible rfl)
            refine wpAnyIn_take (i := 14) (v := ?_) rfl rfl (by decide +kernel) (by decide +kernel) (by decide +kernel) (fun _ _ _ h => h) ⟨Or.inl ⟨by rfl, ?_⟩, fun _ => rfl⟩ ?_
            rotate_left
            · intro w; go_simp; try (with_reducible rfl)
            refine wpAnyIn_take (i := 16) (v := ?_) rfl rfl (by decide +kernel) (by decide +kernel) (by decide +kernel) (fun _ _ _ h => h) ⟨Or.inl ⟨by rfl, ?_⟩, fun _ => rfl⟩ ?_
            rotate_left
            · intro w; go_simp; try (with_reducible rfl)
            refine wpAnyIn_ready (rs := [17]) (by kernel_rfl) (by simp) ?_
            refine AllReadyIn.cons rfl (fun K hK => ?_) AllReadyIn.nil
            go_simp
            refine hK _ _ ?_
            clear hK K
            refine wpAnyIn_take (i := 18) (v := ?_) rfl rfl (by decide +kernel) (by decide +kernel) (by decide +kernel) (fun _ _ _ h => h) ⟨Or.inl ⟨by rfl, ?_⟩, fun _ => rfl⟩ ?_
            rotate_left
            · intro w; go_simp; try (with_reducible rfl)
            refine wpAnyIn_take (i := 19) (v := ?_) rfl rfl (by decide +kernel) (by decide +kernel) (by decide +kernel) (fun _ _ _ h => h) ⟨Or.inl ⟨by rfl, ?_⟩, fun _ => rfl⟩ ?_
            rotate_left
            · intro w; go_simp; try (with_reducible rfl)
            refine wpAnyIn_ready (rs := [20]) (by kernel_rfl) (by simp) ?_
            refine AllReadyIn.cons rfl (fun K hK => ?_) AllReadyIn.nil
            go_simp
            refine hK _ _ ?_
            clear hK K
            refine wpAnyIn_done (by kernel_rfl) ?_ _
            gi_wp2_with fail
            exact HF.out
          · skip
            go_simp
            refine hK _ _ ?_
            clear hK K
            refine wpAnyIn_take (i := 13) (v := ?_) rfl rfl (by decide +kernel) (by decide +kernel) (by decide +kernel) (fun _ _ _ h => h) ⟨Or.inl ⟨by rfl, ?_⟩, fun _ => rfl⟩ ?_
            rotate_left
            · intro w; go_simp; try (with_reducible rfl)
            refine wpAnyIn_ready (rs := [5]) (by kernel_rfl) (by simp) ?_
            refine AllReadyIn.cons rfl (fun K hK => ?_) AllReadyIn.nil
            go_simp
            refine hK _ _ ?_
            clear hK K
            refine wpAnyIn_take (i := 14) (v := ?_) rfl rfl (by decide +kernel) (by decide +kernel) (by decide +kernel) (fun _ _ _ h => h) ⟨Or.inl ⟨by rfl, ?_⟩, fun _ => rfl⟩ ?_
            rotate_left
            · intro w; go_simp; try (with_reducible rfl)
            refine wpAnyIn_take (i := 16) (v := ?_) rfl rfl (by decide +kernel) (by decide +kernel) (by decide +kernel) (fun _ _ _ h => h) ⟨Or.inl ⟨by rfl, ?_⟩, fun _ => rfl⟩ ?_
            rotate_left
            · intro w; go_simp; try (with_reducible rfl)
            refine wpAnyIn_ready (rs := [17]) (by kernel_rfl) (by simp) ?_
            refine AllReadyIn.cons rfl (fun K hK => ?_) AllReadyIn.nil
            go_simp
            refine hK _ _ ?_
            clear hK K
            refine wpAnyIn_take (i := 18) (v := ?_) rfl rfl (by decide +kernel) (by decide +kernel) (by decide +kernel) (fun _ _ _ h => h) ⟨Or.inl ⟨by rfl, ?_⟩, fun _ => rfl⟩ ?_
            rotate_left
            · intro w; go_simp; try (with_reducible rfl)
            refine wpAnyIn_take (i := 19) (v := ?_) rfl rfl (by decide +kernel) (by decide +kernel) (by decide +kernel) (fun _ _ _ h => h) ⟨Or.inl ⟨by rfl, ?_⟩, fun _ => rfl⟩ ?_
            rotate_left
            · intro w; go_simp; try (with_reducible rfl)
            refine wpAnyIn_ready (rs := [20]) (by kernel_rfl) (by simp) ?_
            refine AllReadyIn.cons rfl (fun K hK => ?_) AllReadyIn.nil
            go_simp
            refine hK _ _ ?_
            clear hK K
            refine wpAnyIn_done (by kernel_rfl) ?_ _
            gi_wp2_with fail
            exact HF.out
      · gi_wp2_with fail
        refine wpIn_region_quiet_round hmx (by kernel_rfl) (by kernel_rfl) ?_
        repeat (gi_big_quiet_step (fail))
        refine wpQuietIn_nil ?_
        rintro _ ⟨n4, rfl⟩
        have ze2 := ze.drewN n4
        gi_wp2_with fail
        have hkk : ∀ b t cs, b ≠ xb → Blk W b t cs → Blk ((Wb.drewN n4).setCell ⟨w.heap.size + 1, 0, none⟩ (.int .i64 0)) b t cs := fun b t cs hb h => same_set ze2 (zk b t cs hb h)
        have hxx : Blk ((Wb.drewN n4).setCell ⟨w.heap.size + 1, 0, none⟩ (.int .i64 0)) xb 48 (ndC (xb, xA, xL) (hdP (M2 ++ q) none)) := same_set ze2 (by rw [zh]; exact zx)
        have hm3 : Seg ((Wb.drewN n4).setCell ⟨w.heap.size + 1, 0, none⟩ (.int .i64 0)) M2 (hdP q none) := zM.keep fun m hm cs h => same_set ze2 h
        exact ⟨zK.trans ⟨(KeepsOthers.setCell (Wb.drewN n4) _ _).size, fun k o _ h hc => (KeepsOthers.setCell (Wb.drewN n4) _ _).same k o h hc⟩, rfl, hH.out ⟨by omega, by omega⟩, ze2.set_ 0 _, cut_set (M := M2) (r := (a, l)) hIS.out HE.out HBB.out HG.out (Nat.le_trans hBw HKB.out.size) hCH.out hm3 zn2 (fun m hm => (zl m hm).1) (by rw [zc, cutM]; dsimp only; rw [if_neg (show ¬ nA < a by omega)]; rfl) hxx hkk (by dsimp only; omega) (by dsimp only; omega) HML.out.2.1, ((KpR.of_below HKB.out hBw).t zB).t ((KpR.drewN B Wb n4).t (KpR.same ze2 (by omega)))⟩
    · gi_wp2_with fail
      refine wpIn_region_quiet_round hmx (by kernel_rfl) (by kernel_rfl) ?_
      repeat (gi_big_quiet_step (fail))
      refine wpQuietIn_nil ?_
      rintro _ ⟨nr, rfl⟩
      have va : Blk (W.drewN (nq + nr)) xb 48 #[.int .i64 xA, .int .i64 xL, .pointer (some ⟨nb', 0, none⟩)] := HXD.out.drewN (nq + nr)
      have ve : Blk (W.drewN (nq + nr)) (w.heap.size + 1) 35 #[.int .i64 0] := k1.drewN (nq + nr)
      have vr : Blk (W.drewN (nq + nr)) w.heap.size 24 #[.int .i64 a, .int .i64 l] := k0.drewN (nq + nr)
      have vn : Blk (W.drewN (nq + nr)) nb' 48 #[.int .i64 nA, .int .i64 nL, .pointer nq0] := HND.out.drewN (nq + nr)
      have vk : ∀ b t cs, b ≠ xb → Blk W b t cs → Blk (W.drewN (nq + nr)) b t cs := fun b t cs _ h => h.drewN (nq + nr)
      have vx2 := va.cell 2
      have vxf := va.frozen 2
      replace vx2 : (W.drewN (nq + nr)).cell? ⟨xb, 2, none⟩ = some (.pointer (some ⟨nb', 0, none⟩)) := vx2
      gi_wp2_with fail
      have zx : Blk ((W.drewN (nq + nr)).setCell ⟨xb, 2, none⟩ (.pointer nq0)) xb 48 #[.int .i64 xA, .int .i64 xL, .pointer nq0] := va.set_ 2 _
      have zn : Blk ((W.drewN (nq + nr)).setCell ⟨xb, 2, none⟩ (.pointer nq0)) nb' 48 #[.int .i64 nA, .int .i64 nL, .pointer nq0] := vn.far (p := ⟨xb, 2, none⟩) (Ne.symm hxn) _
      have zr := vr.far (p := ⟨xb, 2, none⟩) (Blk.ne_ vr va (by decide)) (.pointer nq0)
      have ze := ve.far (p := ⟨xb, 2, none⟩) (Blk.ne_ ve va (by decide)) (.pointer nq0)
      have zk : ∀ b t cs, b ≠ xb → Blk W b t cs → Blk ((W.drewN (nq + nr)).setCell ⟨xb, 2, none⟩ (.pointer nq0)) b t cs := fun b t cs hb h => (vk b t cs hb h).far (p := ⟨xb, 2, none⟩) hb _
      have zs : W.heap.size ≤ ((W.drewN (nq + nr)).setCell ⟨xb, 2, none⟩ (.pointer nq0)).heap.size := by simp [World.setCell]
      have zM : Seg ((W.drewN (nq + nr)).setCell ⟨xb, 2, none⟩ (.pointer nq0)) ([] : List Nd) (hdP q none) := trivial
      have zh : hdP (([] : List Nd) ++ q) none = nq0 := HQ.out
      have zl : ∀ m ∈ ([] : List Nd), W.heap.size ≤ m.1 ∧ m.1 < ((W.drewN (nq + nr)).setCell ⟨xb, 2, none⟩ (.pointer nq0)).heap.size := fun m hm => by cases hm
      have zn2 : ((([] : List Nd)).map Prod.fst).Nodup := by simp
      have zc : (([] : List Nd)).map Prod.snd = (if a + l < nA + nL then [(a + l, nA + nL - (a + l))] else []) := by simp [q3]
      have zB : KpR B W ((W.drewN (nq + nr)).setCell ⟨xb, 2, none⟩ (.pointer nq0)) := (KpR.drewN B W (nq + nr)).t ((KpR.set_ (i := 2) va HXB.out _))
      have zK : KeepsFrom W0.heap.size W ((W.drewN (nq + nr)).setCell ⟨xb, 2, none⟩ (.pointer nq0)) := ⟨Nat.le_trans (by simp) ((KeepsOthers.setCell (W.drewN (nq + nr)) _ _).size), fun k o _ h hc => (KeepsOthers.setCell (W.drewN (nq + nr)) _ _).same k o (h) hc⟩
      clear va ve vr vn vk vx2 vxf
      clear c0 c1 c2 x0 x1 x2 fx d0 d1 d3 f3
      generalize ((W.drewN (nq + nr)).setCell ⟨xb, 2, none⟩ (.pointer nq0)) = Wb at *
      generalize ([] : List Nd) = M2 at *
      obtain ⟨d0, d1⟩ := zr.c2
      obtain ⟨c0, c1, c2⟩ := zn.c3
      have d3 := ze.c1
      have f3 := ze.frozen 0
      by_cases q4 : nA < a
      · gi_wp2_with fail
        refine wpIn_region_quiet_round hmx (by kernel_rfl) (by kernel_rfl) ?_
        repeat (gi_big_quiet_step (fail))
        refine wpQuietIn_nil ?_
        rintro _ ⟨n4, rfl⟩
        have zx2 := zx.drewN n4
        have ze2 := ze.drewN n4
        obtain ⟨y0, y1, y2⟩ := zx2.c3
        have yf := zx2.frozen 2
        gi_wp2_with fail
        refine wpIn_region_any_round hmx (by kernel_rfl) ?_
        refine wpAnyIn_take (i := 0) (v := ?_) rfl rfl (by decide +kernel) (by decide +kernel) (by decide +kernel) (fun _ _ _ h => h) ⟨Or.inl ⟨by rfl, ?_⟩, fun _ => rfl⟩ ?_
        rotate_left
        · intro w; go_simp; try (with_reducible rfl)
        refine wpAnyIn_take (i := 1) (v := ?_) rfl rfl (by decide +kernel) (by decide +kernel) (by decide +kernel) (fun _ _ _ h => h) ⟨Or.inl ⟨by rfl, ?_⟩, fun _ => rfl⟩ ?_
        rotate_left
        · intro w; go_simp; try (with_reducible rfl)
        refine wpAnyIn_take (i := 2) (v := ?_) rfl rfl (by decide +kernel) (by decide +kernel) (by decide +kernel) (fun _ _ _ h => h) ⟨Or.inl ⟨by rfl, ?_⟩, fun _ => rfl⟩ ?_
        rotate_left
        · intro w; go_simp; try (with_reducible rfl)
        refine wpAnyIn_take (i := 3) (v := ?_) rfl rfl (by decide +kernel) (by decide +kernel) (by decide +kernel) (fun _ _ _ h => h) ⟨Or.inl ⟨by rfl, ?_⟩, fun _ => rfl⟩ ?_
        rotate_left
        · intro w; go_simp; try (with_reducible rfl)
        refine wpAnyIn_take (i := 4) (v := ?_) rfl rfl (by decide +kernel) (by decide +kernel) (by decide +kernel) (fun _ _ _ h => h) ⟨Or.inl ⟨by rfl, ?_⟩, fun _ => rfl⟩ ?_
        rotate_left
        · intro w; go_simp; try (with_reducible rfl)
        refine wpAnyIn_take (i := 6) (v := ?_) rfl rfl (by decide +kernel) (by decide +kernel) (by decide +kernel) (fun _ _ _ h => h) ⟨Or.inl ⟨by rfl, ?_⟩, fun _ => rfl⟩ ?_
        rotate_left
        · intro w; go_simp; try (with_reducible rfl)
        refine wpAnyIn_take (i := 8) (v := ?_) rfl rfl (by decide +kernel) (by decide +kernel) (by decide +kernel) (fun _ _ _ h => h) ⟨Or.inl ⟨by rfl, ?_⟩, fun _ => rfl⟩ ?_
        rotate_left
        · intro w; go_simp; try (with_reducible rfl)
        refine wpAnyIn_take (i := 9) (v := ?_) rfl rfl (by decide +kernel) (by decide +kernel) (by decide +kernel) (fun _ _ _ h => h) ⟨Or.inl ⟨by rfl, ?_⟩, fun _ => rfl⟩ ?_
        rotate_left
        · intro w; go_simp; try (with_reducible rfl)
        refine wpAnyIn_take (i := 10) (v := ?_) rfl rfl (by decide +kernel) (by decide +kernel) (by decide +kernel) (fun _ _ _ h => h) ⟨Or.inl ⟨by rfl, ?_⟩, fun _ => rfl⟩ ?_
        rotate_left
        · intro w; go_simp; try (with_reducible rfl)
        refine wpAnyIn_take (i := 11) (v := ?_) rfl rfl (by decide +kernel) (by decide +kernel) (by decide +kernel) (fun _ _ _ h => h) ⟨Or.inl ⟨by rfl, ?_⟩, fun _ => rfl⟩ ?_
        rotate_left
        · intro w; go_simp; try (with_reducible rfl)
        refine wpAnyIn_take (i := 15) (v := ?_) rfl rfl (by decide +kernel) (by decide +kernel) (by decide +kernel) (fun _ _ _ h => h) ⟨Or.inl ⟨by rfl, ?_⟩, fun _ => rfl⟩ ?_
        rotate_left
        · intro w; go_simp; try (with_reducible rfl)
        have zw : Blk ((Wb.drewN (n4 + 1)).alloc (.cells #[.int .i64 nA, .int .i64 (a - nA), .pointer nq0] 48)) xb 48 #[.int .i64 xA, .int .i64 xL, .pointer nq0] := (zx.drewN (n4 + 1)).alloc _
        obtain ⟨w0', w1', w2'⟩ := zw.c3
        have wf' := zw.frozen 2
        have ze3 : Blk (((Wb.drewN (n4 + 1)).alloc (.cells #[.int .i64 nA, .int .i64 (a - nA), .pointer nq0] 48)).setCell ⟨xb, 2, none⟩ (.pointer (some ⟨Wb.heap.size, 0, none⟩))) (w.heap.size + 1) 35 #[.int .i64 0] := ((ze.drewN (n4 + 1)).alloc _).far (p := ⟨xb, 2, none⟩) (Blk.ne_ ze2 zx2 (by decide)) _
        have e30 := ze3.c1
        have e3f := ze3.frozen 0
        have HF : Hid (ownPostG W0.heap.size (KpN w.heap.size) (fun pre W => (∀ x ∈ pre, ¬ ((rs.getD x.val (0, 0)).1 ≤ a ∧ a + l ≤ (rs.getD x.val (0, 0)).1 + (rs.getD x.val (0, 0)).2)) ∧ Blk W w.heap.size 24 #[.int .i64 a, .int .i64 l] ∧ Blk W (w.heap.size + 1) 35 #[.int .i64 0] ∧ Below w.heap.size w W) (fun c pre W => c = .ret ∧ cutH rs (a, l) = true ∧ Blk W (w.heap.size + 1) 35 #[.int .i64 0] ∧ (∃ rs', IsSet W B sb rs' ∧ ((∀ i, memR rs' i = (memR rs i && !inR (a, l) i)) ∧ sumR rs' = sumR rs - l)) ∧ KpR B w W) (pre ++ [y]) W Exit.ret { tmps := #[], defers := [] } ((((Wb.drewN (n4 + 1)).alloc (.cells #[.int .i64 nA, .int .i64 (a - nA), .pointer nq0] 48)).setCell ⟨xb, 2, none⟩ (.pointer (some ⟨Wb.heap.size, 0, none⟩))).setCell ⟨w.heap.size + 1, 0, none⟩ (.int .i64 0))) := by
          have vk4 : KpR B Wb (((Wb.drewN (n4 + 1)).alloc (.cells #[.int .i64 nA, .int .i64 (a - nA), .pointer nq0] 48)).setCell ⟨xb, 2, none⟩ (.pointer (some ⟨Wb.heap.size, 0, none⟩))) := (KpR.drewN B Wb (n4 + 1)).t (((KpR.alloc (W := Wb.drewN (n4 + 1)) (Nat.le_trans hBw (Nat.le_trans HKB.out.size zs)) _).t (KpR.set_ (i := 2) zw HXB.out _)))
          have hM1 := (Blk.new_at (Wb.drewN (n4 + 1)) Wb.heap.size 48 #[.int .i64 nA, .int .i64 (a - nA), .pointer nq0] rfl).far (p := ⟨xb, 2, none⟩) (by have := zx.lt; simp; omega) (.pointer (some ⟨Wb.heap.size, 0, none⟩))
          have hkb : ∀ b t cs, b ≠ xb → Blk Wb b t cs → Blk (((Wb.drewN (n4 + 1)).alloc (.cells #[.int .i64 nA, .int .i64 (a - nA), .pointer nq0] 48)).setCell ⟨xb, 2, none⟩ (.pointer (some ⟨Wb.heap.size, 0, none⟩))) b t cs := fun b t cs hb h => ((h.drewN (n4 + 1)).alloc _).far (p := ⟨xb, 2, none⟩) hb _
          have hxx : Blk (((Wb.drewN (n4 + 1)).alloc (.cells #[.int .i64 nA, .int .i64 (a - nA), .pointer nq0] 48)).setCell ⟨xb, 2, none⟩ (.pointer (some ⟨Wb.heap.size, 0, none⟩))) xb 48 #[.int .i64 xA, .int .i64 xL, .pointer (some ⟨Wb.heap.size, 0, none⟩)] := zw.set_ 2 _
          have hKK : KeepsFrom W0.heap.size Wb (((Wb.drewN (n4 + 1)).alloc (.cells #[.int .i64 nA, .int .i64 (a - nA), .pointer nq0] 48)).setCell ⟨xb, 2, none⟩ (.pointer (some ⟨Wb.heap.size, 0, none⟩))) := ⟨Nat.le_trans (by simp) ((KeepsOthers.setCell ((Wb.drewN (n4 + 1)).alloc (.cells #[.int .i64 nA, .int .i64 (a - nA), .pointer nq0] 48)) _ _).size), fun k o _ h hc => (KeepsOthers.setCell ((Wb.drewN (n4 + 1)).alloc (.cells #[.int .i64 nA, .int .i64 (a - nA), .pointer nq0] 48)) _ _).same k o ((Below.heap_alloc (Wb.drewN (n4 + 1)) _ k (Array.getElem?_eq_some_iff.1 h).1).trans h) hc⟩
          generalize (((Wb.drewN (n4 + 1)).alloc (.cells #[.int .i64 nA, .int .i64 (a - nA), .pointer nq0] 48)).setCell ⟨xb, 2, none⟩ (.pointer (some ⟨Wb.heap.size, 0, none⟩))) = Wc at *
          have hkk : ∀ b t cs, b ≠ xb → Blk W b t cs → Blk (Wc.setCell ⟨w.heap.size + 1, 0, none⟩ (.int .i64 0)) b t cs := fun b t cs hb h => same_set ze3 (hkb b t cs hb (zk b t cs hb h))
          have hm3 : Seg (Wc.setCell ⟨w.heap.size + 1, 0, none⟩ (.int .i64 0)) ((Wb.heap.size, nA, a - nA) :: M2) (hdP q none) := by
            refine ⟨?_, zM.keep fun m hm cs h => same_set ze3 (hkb _ _ _ ?_ h)⟩
            · have := same_set ze3 hM1
              rw [← hdP_append, zh]
              exact this
            · have := (zl m hm).1
              have := HXD.out.lt
              omega
          refine ⟨zK.trans (hKK.trans ((KeepsOthers.setCell _ _ _).from _)), rfl, hH.out ⟨by omega, by omega⟩, ze3.set_ 0 _, ?_, ((KpR.of_below HKB.out hBw).t zB).t (vk4.t (KpR.same ze3 (by omega)))⟩
          refine cut_set (M := (Wb.heap.size, nA, a - nA) :: M2) (r := (a, l)) hIS.out HE.out HBB.out HG.out (Nat.le_trans hBw HKB.out.size) hCH.out hm3 ?_ ?_ ?_ (same_set ze3 hxx) hkk (by dsimp only; omega) (by dsimp only; omega) HML.out.2.1
          · rw [List.map_cons, List.nodup_cons]
            refine ⟨fun hm => ?_, zn2⟩
            obtain ⟨m, hm, hme⟩ := List.mem_map.1 hm
            have := (zl m hm).2
            dsimp only at hme
            omega
          · intro m hm
            rcases List.mem_cons.1 hm with rfl | hm
            · exact zs
            · exact (zl m hm).1
          · rw [List.map_cons, zc, cutM]
            dsimp only
            rw [if_pos q4]
            rfl
        refine wpAnyIn_ready (rs := [5, 7, 12]) (by kernel_rfl) (by simp) ?_
        refine AllReadyIn.cons rfl (fun K hK => ?_) (AllReadyIn.cons rfl (fun K hK => ?_) (AllReadyIn.cons rfl (fun K hK => ?_) AllReadyIn.nil))
        · skip
          go_simp
          refine hK _ _ ?_
          clear hK K
          refine wpAnyIn_ready (rs := [7, 12]) (by kernel_rfl) (by simp) ?_
          refine AllReadyIn.cons rfl (fun K hK => ?_) (AllReadyIn.cons rfl (fun K hK => ?_) AllReadyIn.nil)
          · skip
            go_simp
            refine hK _ _ ?_
            clear hK K
            refine wpAnyIn_ready (rs := [12]) (by kernel_rfl) (by simp) ?_
            refine AllReadyIn.cons rfl (fun K hK => ?_) AllReadyIn.nil
            go_simp
            refine hK _ _ ?_
            clear hK K
            refine wpAnyIn_take (i := 13) (v := ?_) rfl rfl (by decide +kernel) (by decide +kernel) (by decide +kernel) (fun _ _ _ h => h) ⟨Or.inl ⟨by rfl, ?_⟩, fun _ => rfl⟩ ?_
            rotate_left
            · intro w; go_simp; try (with_reducible rfl)
            refine wpAnyIn_take (i := 14) (v := ?_) rfl rfl (by decide +kernel) (by decide +kernel) (by decide +kernel) (fun _ _ _ h => h) ⟨Or.inl ⟨by rfl, ?_⟩, fun _ => rfl⟩ ?_
            rotate_left
            · intro w; go_simp; try (with_reducible rfl)
            refine wpAnyIn_take (i := 16) (v := ?_) rfl rfl (by decide +kernel) (by decide +kernel) (by decide +kernel) (fun _ _ _ h => h) ⟨Or.inl ⟨by rfl, ?_⟩, fun _ => rfl⟩ ?_
            rotate_left
            · intro w; go_simp; try (with_reducible rfl)
            refine wpAnyIn_ready (rs := [17]) (by kernel_rfl) (by simp) ?_
            refine AllReadyIn.cons rfl (fun K hK => ?_) AllReadyIn.nil
            go_simp
            refine hK _ _ ?_
            clear hK K
            refine wpAnyIn_take (i := 18) (v := ?_) rfl rfl (by decide +kernel) (by decide +kernel) (by decide +kernel) (fun _ _ _ h => h) ⟨Or.inl ⟨by rfl, ?_⟩, fun _ => rfl⟩ ?_
            rotate_left
            · intro w; go_simp; try (with_reducible rfl)
            refine wpAnyIn_take (i := 19) (v := ?_) rfl rfl (by decide +kernel) (by decide +kernel) (by decide +kernel) (fun _ _ _ h => h) ⟨Or.inl ⟨by rfl, ?_⟩, fun _ => rfl⟩ ?_
            rotate_left
            · intro w; go_simp; try (with_reducible rfl)
            refine wpAnyIn_ready (rs := [20]) (by kernel_rfl) (by simp) ?_
            refine AllReadyIn.cons rfl (fun K hK => ?_) AllReadyIn.nil
            go_simp
            refine hK _ _ ?_
            clear hK K
            refine wpAnyIn_done (by kernel_rfl) ?_ _
            gi_wp2_with fail
            exact HF.out
          · skip
            go_simp
            refine hK _ _ ?_
            clear hK K
            refine wpAnyIn_ready (rs := [7]) (by kernel_rfl) (by simp) ?_
            refine AllReadyIn.cons rfl (fun K hK => ?_) AllReadyIn.nil
            go_simp
            refine hK _ _ ?_
            clear hK K
            refine wpAnyIn_take (i := 13) (v := ?_) rfl rfl (by decide +kernel) (by decide +kernel) (by decide +kernel) (fun _ _ _ h => h) ⟨Or.inl ⟨by rfl, ?_⟩, fun _ => rfl⟩ ?_
            rotate_left
            · intro w; go_simp; try (with_reducible rfl)
            refine wpAnyIn_take (i := 14) (v := ?_) rfl rfl (by decide +kernel) (by decide +kernel) (by decide +kernel) (fun _ _ _ h => h) ⟨Or.inl ⟨by rfl, ?_⟩, fun _ => rfl⟩ ?_
            rotate_left
            · intro w; go_simp; try (with_reducible rfl)
            refine wpAnyIn_take (i := 16) (v := ?_) rfl rfl (by decide +kernel) (by decide +kernel) (by decide +kernel) (fun _ _ _ h => h) ⟨Or.inl ⟨by rfl, ?_⟩, fun _ => rfl⟩ ?_
            rotate_left
            · intro w; go_simp; try (with_reducible rfl)
            refine wpAnyIn_ready (rs := [17]) (by kernel_rfl) (by simp) ?_
            refine AllReadyIn.cons rfl (fun K hK => ?_) AllReadyIn.nil
            go_simp
            refine hK _ _ ?_
            clear hK K
            refine wpAnyIn_take (i := 18) (v := ?_) rfl rfl (by decide +kernel) (by decide +kernel) (by decide +kernel) (fun _ _ _ h => h) ⟨Or.inl ⟨by rfl, ?_⟩, fun _ => rfl⟩ ?_
            rotate_left
            · intro w; go_simp; try (with_reducible rfl)
            refine wpAnyIn_take (i := 19) (v := ?_) rfl rfl (by decide +kernel) (by decide +kernel) (by decide +kernel) (fun _ _ _ h => h) ⟨Or.inl ⟨by rfl, ?_⟩, fun _ => rfl⟩ ?_
            rotate_left
            · intro w; go_simp; try (with_reducible rfl)
            refine wpAnyIn_ready (rs := [20]) (by kernel_rfl) (by simp) ?_
            refine AllReadyIn.cons rfl (fun K hK => ?_) AllReadyIn.nil
            go_simp
            refine hK _ _ ?_
            clear hK K
            refine wpAnyIn_done (by kernel_rfl) ?_ _
            gi_wp2_with fail
            exact HF.out
        · skip
          go_simp
          refine hK _ _ ?_
          clear hK K
          refine wpAnyIn_ready (rs := [5, 12]) (by kernel_rfl) (by simp) ?_
          refine AllReadyIn.cons rfl (fun K hK => ?_) (AllReadyIn.cons rfl (fun K hK => ?_) AllReadyIn.nil)
          · skip
            go_simp
            refine hK _ _ ?_
            clear hK K
            refine wpAnyIn_ready (rs := [12]) (by kernel_rfl) (by simp) ?_
            refine AllReadyIn.cons rfl (fun K hK => ?_) AllReadyIn.nil
            go_simp
            refine hK _ _ ?_
            clear hK K
            refine wpAnyIn_take (i := 13) (v := ?_) rfl rfl (by decide +kernel) (by decide +kernel) (by decide +kernel) (fun _ _ _ h => h) ⟨Or.inl ⟨by rfl, ?_⟩, fun _ => rfl⟩ ?_
            rotate_left
            · intro w; go_simp; try (with_reducible rfl)
            refine wpAnyIn_take (i := 14) (v := ?_) rfl rfl (by decide +kernel) (by decide +kernel) (by decide +kernel) (fun _ _ _ h => h) ⟨Or.inl ⟨by rfl, ?_⟩, fun _ => rfl⟩ ?_
            rotate_left
            · intro w; go_simp; try (with_reducible rfl)
            refine wpAnyIn_take (i := 16) (v := ?_) rfl rfl (by decide +kernel) (by decide +kernel) (by decide +kernel) (fun _ _ _ h => h) ⟨Or.inl ⟨by rfl, ?_⟩, fun _ => rfl⟩ ?_
            rotate_left
            · intro w; go_simp; try (with_reducible rfl)
            refine wpAnyIn_ready (rs := [17]) (by kernel_rfl) (by simp) ?_
            refine AllReadyIn.cons rfl (fun K hK => ?_) AllReadyIn.nil
            go_simp
            refine hK _ _ ?_
            clear hK K
            refine wpAnyIn_take (i := 18) (v := ?_) rfl rfl (by decide +kernel) (by decide +kernel) (by decide +kernel) (fun _ _ _ h => h) ⟨Or.inl ⟨by rfl, ?_⟩, fun _ => rfl⟩ ?_
            rotate_left
            · intro w; go_simp; try (with_reducible rfl)
            refine wpAnyIn_take (i := 19) (v := ?_) rfl rfl (by decide +kernel) (by decide +kernel) (by decide +kernel) (fun _ _ _ h => h) ⟨Or.inl ⟨by rfl, ?_⟩, fun _ => rfl⟩ ?_
            rotate_left
            · intro w; go_simp; try (with_reducible rfl)
            refine wpAnyIn_ready (rs := [20]) (by kernel_rfl) (by simp) ?_
            refine AllReadyIn.cons rfl (fun K hK => ?_) AllReadyIn.nil
            go_simp
            refine hK _ _ ?_
            clear hK K
            refine wpAnyIn_done (by kernel_rfl) ?_ _
            gi_wp2_with fail
            exact HF.out
          · skip
            go_simp
            refine hK _ _ ?_
            clear hK K
            refine wpAnyIn_take (i := 13) (v := ?_) rfl rfl (by decide +kernel) (by decide +kernel) (by decide +kernel) (fun _ _ _ h => h) ⟨Or.inl ⟨by rfl, ?_⟩, fun _ => rfl⟩ ?_
            rotate_left
            · intro w; go_simp; try (with_reducible rfl)
            refine wpAnyIn_ready (rs := [5]) (by kernel_rfl) (by simp) ?_
            refine AllReadyIn.cons rfl (fun K hK => ?_) AllReadyIn.nil
            go_simp
            refine hK _ _ ?_
            clear hK K
            refine wpAnyIn_take (i := 14) (v := ?_) rfl rfl (by decide +kernel) (by decide +kernel) (by decide +kernel) (fun _ _ _ h => h) ⟨Or.inl ⟨by rfl, ?_⟩, fun _ => rfl⟩ ?_
            rotate_left
            · intro w; go_simp; try (with_reducible rfl)
            refine wpAnyIn_take (i := 16) (v := ?_) rfl rfl (by decide +kernel) (by decide +kernel) (by decide +kernel) (fun _ _ _ h => h) ⟨Or.inl ⟨by rfl, ?_⟩, fun _ => rfl⟩ ?_
            rotate_left
            · intro w; go_simp; try (with_reducible rfl)
            refine wpAnyIn_ready (rs := [17]) (by kernel_rfl) (by simp) ?_
            refine AllReadyIn.cons rfl (fun K hK => ?_) AllReadyIn.nil
            go_simp
            refine hK _ _ ?_
            clear hK K
            refine wpAnyIn_take (i := 18) (v := ?_) rfl rfl (by decide +kernel) (by decide +kernel) (by decide +kernel) (fun _ _ _ h => h) ⟨Or.inl ⟨by rfl, ?_⟩, fun _ => rfl⟩ ?_
            rotate_left
            · intro w; go_simp; try (with_reducible rfl)
            refine wpAnyIn_take (i := 19) (v := ?_) rfl rfl (by decide +kernel) (by decide +kernel) (by decide +kernel) (fun _ _ _ h => h) ⟨Or.inl ⟨by rfl, ?_⟩, fun _ => rfl⟩ ?_
            rotate_left
            · intro w; go_simp; try (with_reducible rfl)
            refine wpAnyIn_ready (rs := [20]) (by kernel_rfl) (by simp) ?_
            refine AllReadyIn.cons rfl (fun K hK => ?_) AllReadyIn.nil
            go_simp
            refine hK _ _ ?_
            clear hK K
            refine wpAnyIn_done (by kernel_rfl) ?_ _
            gi_wp2_with fail
            exact HF.out
        · skip
          go_simp
          refine hK _ _ ?_
          clear hK K
          refine wpAnyIn_ready (rs := [5, 7]) (by kernel_rfl) (by simp) ?_
          refine AllReadyIn.cons rfl (fun K hK => ?_) (AllReadyIn.cons rfl (fun K hK => ?_) AllReadyIn.nil)
          · skip
            go_simp
            refine hK _ _ ?_
            clear hK K
            refine wpAnyIn_ready (rs := [7]) (by kernel_rfl) (by simp) ?_
            refine AllReadyIn.cons rfl (fun K hK => ?_) AllReadyIn.nil
            go_simp
            refine hK _ _ ?_
            clear hK K
            refine wpAnyIn_take (i := 13) (v := ?_) rfl rfl (by decide +kernel) (by decide +kernel) (by decide +kernel) (fun _ _ _ h => h) ⟨Or.inl ⟨by rfl, ?_⟩, fun _ => rfl⟩ ?_
            rotate_left
            · intro w; go_simp; try (with_reducible rfl)
            refine wpAnyIn_take (i := 14) (v := ?_) rfl rfl (by decide +kernel) (by decide +kernel) (by decide +kernel) (fun _ _ _ h => h) ⟨Or.inl ⟨by rfl, ?_⟩, fun _ => rfl⟩ ?_
            rotate_left
            · intro w; go_simp; try (with_reducible rfl)
            refine wpAnyIn_take (i := 16) (v := ?_) rfl rfl (by decide +kernel) (by decide +kernel) (by decide +kernel) (fun _ _ _ h => h) ⟨Or.inl ⟨by rfl, ?_⟩, fun _ => rfl⟩ ?_
            rotate_left
            · intro w; go_simp; try (with_reducible rfl)
            refine wpAnyIn_ready (rs := [17]) (by kernel_rfl) (by simp) ?_
            refine AllReadyIn.cons rfl (fun K hK => ?_) AllReadyIn.nil
            go_simp
            refine hK _ _ ?_
            clear hK K
            refine wpAnyIn_take (i := 18) (v := ?_) rfl rfl (by decide +kernel) (by decide +kernel) (by decide +kernel) (fun _ _ _ h => h) ⟨Or.inl ⟨by rfl, ?_⟩, fun _ => rfl⟩ ?_
            rotate_left
            · intro w; go_simp; try (with_reducible rfl)
            refine wpAnyIn_take (i := 19) (v := ?_) rfl rfl (by decide +kernel) (by decide +kernel) (by decide +kernel) (fun _ _ _ h => h) ⟨Or.inl ⟨by rfl, ?_⟩, fun _ => rfl⟩ ?_
            rotate_left
            · intro w; go_simp; try (with_reducible rfl)
            refine wpAnyIn_ready (rs := [20]) (by kernel_rfl) (by simp) ?_
            refine AllReadyIn.cons rfl (fun K hK => ?_) AllReadyIn.nil
            go_simp
            refine hK _ _ ?_
            clear hK K
            refine wpAnyIn_done (by kernel_rfl) ?_ _
            gi_wp2_with fail
            exact HF.out
          · skip
            go_simp
            refine hK _ _ ?_
            clear hK K
            refine wpAnyIn_take (i := 13) (v := ?_) rfl rfl (by decide +kernel) (by decide +kernel) (by decide +kernel) (fun _ _ _ h => h) ⟨Or.inl ⟨by rfl, ?_⟩, fun _ => rfl⟩ ?_
            rotate_left
            · intro w; go_simp; try (with_reducible rfl)
            refine wpAnyIn_ready (rs := [5]) (by kernel_rfl) (by simp) ?_
            refine AllReadyIn.cons rfl (fun K hK => ?_) AllReadyIn.nil
            go_simp
            refine hK _ _ ?_
            clear hK K
            refine wpAnyIn_take (i := 14) (v := ?_) rfl rfl (by decide +kernel) (by decide +kernel) (by decide +kernel) (fun _ _ _ h => h) ⟨Or.inl ⟨by rfl, ?_⟩, fun _ => rfl⟩ ?_
            rotate_left
            · intro w; go_simp; try (with_reducible rfl)
            refine wpAnyIn_take (i := 16) (v := ?_) rfl rfl (by decide +kernel) (by decide +kernel) (by decide +kernel) (fun _ _ _ h => h) ⟨Or.inl ⟨by rfl, ?_⟩, fun _ => rfl⟩ ?_
            rotate_left
            · intro w; go_simp; try (with_reducible rfl)
            refine wpAnyIn_ready (rs := [17]) (by kernel_rfl) (by simp) ?_
            refine AllReadyIn.cons rfl (fun K hK => ?_) AllReadyIn.nil
            go_simp
            refine hK _ _ ?_
            clear hK K
            refine wpAnyIn_take (i := 18) (v := ?_) rfl rfl (by decide +kernel) (by decide +kernel) (by decide +kernel) (fun _ _ _ h => h) ⟨Or.inl ⟨by rfl, ?_⟩, fun _ => rfl⟩ ?_
            rotate_left
            · intro w; go_simp; try (with_reducible rfl)
            refine wpAnyIn_take (i := 19) (v := ?_) rfl rfl (by decide +kernel) (by decide +kernel) (by decide +kernel) (fun _ _ _ h => h) ⟨Or.inl ⟨by rfl, ?_⟩, fun _ => rfl⟩ ?_
            rotate_left
            · intro w; go_simp; try (with_reducible rfl)
            refine wpAnyIn_ready (rs := [20]) (by kernel_rfl) (by simp) ?_
            refine AllReadyIn.cons rfl (fun K hK => ?_) AllReadyIn.nil
            go_simp
            refine hK _ _ ?_
            clear hK K
            refine wpAnyIn_done (by kernel_rfl) ?_ _
            gi_wp2_with fail
            exact HF.out
      · gi_wp2_with fail
        refine wpIn_region_quiet_round hmx (by kernel_rfl) (by kernel_rfl) ?_
        repeat (gi_big_quiet_step (fail))
        refine wpQuietIn_nil ?_
        rintro _ ⟨n4, rfl⟩
        have ze2 := ze.drewN n4
        gi_wp2_with fail
        have hkk : ∀ b t cs, b ≠ xb → Blk W b t cs → Blk ((Wb.drewN n4).setCell ⟨w.heap.size + 1, 0, none⟩ (.int .i64 0)) b t cs := fun b t cs hb h => same_set ze2 (zk b t cs hb h)
        have hxx : Blk ((Wb.drewN n4).setCell ⟨w.heap.size + 1, 0, none⟩ (.int .i64 0)) xb 48 (ndC (xb, xA, xL) (hdP (M2 ++ q) none)) := same_set ze2 (by rw [zh]; exact zx)
        have hm3 : Seg ((Wb.drewN n4).setCell ⟨w.heap.size + 1, 0, none⟩ (.int .i64 0)) M2 (hdP q none) := zM.keep fun m hm cs h => same_set ze2 h
        exact ⟨zK.trans ⟨(KeepsOthers.setCell (Wb.drewN n4) _ _).size, fun k o _ h hc => (KeepsOthers.setCell (Wb.drewN n4) _ _).same k o h hc⟩, rfl, hH.out ⟨by omega, by omega⟩, ze2.set_ 0 _, cut_set (M := M2) (r := (a, l)) hIS.out HE.out HBB.out HG.out (Nat.le_trans hBw HKB.out.size) hCH.out hm3 zn2 (fun m hm => (zl m hm).1) (by rw [zc, cutM]; dsimp only; rw [if_neg (show ¬ nA < a by omega)]; rfl) hxx hkk (by dsimp only; omega) (by dsimp only; omega) HML.out.2.1, ((KpR.of_below HKB.out hBw).t zB).t ((KpR.drewN B Wb n4).t (KpR.same ze2 (by omega)))⟩
  case done =>
    rintro D ys W hD rfl ⟨hp, k0, k1, hB⟩ hK
    have d3 := k1.c1
    have f3 := k1.frozen 0
    gi_wp2_with fail
    have hDne : D ≠ w.heap.size + 1 := by omega
    have hK2 : (W.setCell ⟨w.heap.size + 1, 0, none⟩ (.int .i64 3)).heap[D]? = some (.deferred (some [])) := (Below.heap_setCell W ⟨w.heap.size + 1, 0, none⟩ _ D hDne).trans hK
    have k2 : Blk (W.setCell ⟨w.heap.size + 1, 0, none⟩ (.int .i64 3)) (w.heap.size + 1) 35 #[.int .i64 3] := k1.set_ 0 _
    have hB2 := hB.setCell (p := ⟨w.heap.size + 1, 0, none⟩) (by simp) (.int .i64 3)
    clear hK k0 k1 hB d3 f3
    generalize W.setCell ⟨w.heap.size + 1, 0, none⟩ (.int .i64 3) = W2 at *
    have hc3 := (blk_put (o := .deferred none) (D := D) k2 (Ne.symm hDne)).c1
    have hno : cutH rs (a, l) = false := by
      cases hh : cutH rs (a, l)
      · rfl
      · obtain ⟨n, hn, hi⟩ := List.any_eq_true.1 hh
        obtain ⟨j, hj, rfl⟩ := List.getElem_of_mem hn
        have := hp ⟨j, by have := HL.out; omega⟩ (chP_all ch _)
        simp only [decide_eq_true_eq] at hi
        simp only [List.getD, List.getElem?_eq_getElem hj, Option.getD_some] at this
        exact absurd hi this
    have hE : cutE rs (a, l) = 3 := by simp [cutE, hm, hno]
    have hBf := hB2.trans (belowK_b (w := w) (Nat.le_refl _) W2 D (.deferred (some [])) (.deferred none) (by omega) hK2 rfl rfl)
    refine ⟨by simp, .inl ⟨_, _, rfl, run_takeDeferred hK2, ?_⟩⟩
    refine ⟨.int .i64 3, by simp [results, Try.results12, go_sem, hc3], ⟨by rw [hE], fun _ => ?_, fun h => (by rw [hE] at h; cases h), KpR.of_below hBf hBw⟩⟩
    exact IsSet.nx (w := w) ⟨ch, hr, HE.out, HBB.out, HG.out⟩ hBf
  case stop =>
    rintro D c pre W hD _ ⟨rfl, hh, k1, ⟨rs', h1, h2⟩, hk⟩ hK
    gi_wp2_with fail
    have hc3 := (blk_put (o := .deferred none) (D := D) k1 (by omega)).c1
    have hE : cutE rs (a, l) = 0 := by simp [cutE, hm, hh]
    refine ⟨by simp, .inl ⟨_, _, rfl, run_takeDeferred hK, ?_⟩⟩
    refine ⟨.int .i64 0, by simp [results, Try.results12, go_sem, hc3], ⟨by rw [hE], fun h => absurd hE h, fun _ => ⟨rs', h1.defer hK, h2⟩, hk.t ⟨(belowK_b (w := w) (Nat.le_refl _) W D (.deferred (some [])) (.deferred none) (by omega) hK rfl rfl).mono hBw, by simp, fun b t cs _ h => blk_defer hK h⟩⟩⟩
end Go.Proofs.Ytpkbmdibiefbdaa
