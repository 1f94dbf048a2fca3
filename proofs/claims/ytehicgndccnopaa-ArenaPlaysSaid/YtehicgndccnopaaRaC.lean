/- An arena and the document's, side by side; a step of a script. -/
import Derived.Test.YtehicgndccnopaaRaB
import Derived.Deep.RegionHeld3
namespace Go.Proofs.Ytehicgndccnopaa
open Go.RowKit
set_option linter.unusedVariables false
set_option linter.unusedSimpArgs false

/-- An arena (words wa, ca written) and the document's (wr, cr), apart. -/
structure Duo (W w : World) (bs br rb : Nat) (rs : List Value) (v : Value) (wa : List Int) (ca : Nat) (wr : List Int) (cr : Nat) : Prop where
  a : IsAr w bs br wa rs ca
  r : IsRa w W.heap.size rb v wr cr
  ap : v.ownBlock ≠ some br
  la : W.heap.size ≤ bs
  lb : W.heap.size ≤ br
  b : Below W.heap.size W w

theorem own_touchA {w w' : World} {base : Nat} {e : TypeId} {size : Nat} {v : Value} {n : Nat} {xs : List Value} {bs br : Nat} (h : w.ownsRow base e size v n xs) (h1 : v.ownBlock ≠ some bs) (h2 : v.ownBlock ≠ some br) (ht : Touch bs br w w') : w'.ownsRow base e size v n xs := by
  refine ⟨h.1, ?_⟩
  rcases h.2 with h3 | ⟨g, cap, cur, rfl, hb, hg, h3⟩
  · exact .inl h3
  · exact .inr ⟨g, cap, cur, rfl, hb, (ht.block g (Blk.lt hg) (fun e => h1 (by rw [e]; rfl)) (fun e => h2 (by rw [e]; rfl))).trans hg, h3⟩

section
variable {W w w' : World} {bs br rb : Nat} {rs : List Value} {v v' : Value} {wa wa' wr wr' : List Int} {ca ca' cr cr' : Nat}
theorem Duo.nx (h : Duo W w bs br rb rs v wa ca wr cr) (hb : Below w.heap.size w w') : Duo W w' bs br rb rs v wa ca wr cr :=
  ⟨h.a.nx hb, h.r.nx hb, h.ap, h.la, h.lb, bnext h.b hb⟩
theorem Duo.drew (h : Duo W w bs br rb rs v wa ca wr cr) : Duo W w.drew bs br rb rs v wa ca wr cr := h.nx (Below.refl _ w).drew
theorem Duo.sne (h : Duo W w bs br rb rs v wa ca wr cr) : rb ≠ bs ∧ rb ≠ br ∧ v.ownBlock ≠ some bs :=
  ⟨h.r.s.ne_ h.a.s (by decide), h.r.s.ne_ h.a.r (by decide), own_blk_ne h.r.r h.a.s (by decide)⟩
theorem Duo.stepA (h : Duo W w bs br rb rs v wa ca wr cr) (hI : IsAr w' bs br wa' rs ca') (hT : Touch bs br w w') : Duo W w' bs br rb rs v wa' ca' wr cr := by
  obtain ⟨n1, n2, n3⟩ := h.sne
  exact ⟨hI, ⟨h.r.s.touch hT n1 n2, own_touchA h.r.r n3 h.ap hT, h.r.lo, h.r.hi, h.r.le⟩, h.ap, h.la, h.lb, Below.touch h.b h.la h.lb (Nat.le_refl _) hT⟩
theorem Duo.stepR (h : Duo W w bs br rb rs v wa ca wr cr) (hI : IsRa w' W.heap.size rb v' wr' cr') (hf : v' = v ∨ ∀ g, v'.ownBlock = some g → w.heap.size ≤ g) (hT : Touch rb rb w w') : Duo W w' bs br rb rs v' wa ca wr' cr' := by
  obtain ⟨n1, n2, n3⟩ := h.sne
  refine ⟨⟨h.a.s.touch hT n1.symm n1.symm, h.a.r.touch hT n2.symm n2.symm, h.a.ne, h.a.lo, h.a.hi⟩, hI, ?_, h.la, h.lb, Below.touch h.b h.r.le h.r.le (Nat.le_refl _) hT⟩
  rcases hf with rfl | hf
  · exact h.ap
  · intro e
    have := hf _ e
    have := h.a.r.lt
    omega
theorem Duo.copy {w1 : World} {bs2 br2 : Nat} {rs2 : List Value} (h : Duo W w bs br rb rs v wa ca wr cr) (hI : IsAr w1 bs2 br2 wa rs2 ca) (h1 : w.heap.size ≤ bs2) (h2 : w.heap.size ≤ br2) (hb : Below w.heap.size w w1) (hT : Touch bs br w1 w') : Duo W w' bs2 br2 rb rs2 v wa ca wr cr := by
  have h3 := h.a.s.lt
  have h4 := h.a.r.lt
  have hs := h.b.size
  have hz := (h.nx hb).stepA (w' := w') (wa' := wa) (ca' := ca) (rs := rs)
  obtain ⟨n1, n2, n3⟩ := h.sne
  have hr := h.r.nx hb
  refine ⟨⟨hI.s.touch hT (by omega) (by omega), hI.r.touch hT (by omega) (by omega), hI.ne, hI.lo, hI.hi⟩, ⟨hr.s.touch hT n1 n2, own_touchA hr.r n3 h.ap hT, h.r.lo, h.r.hi, h.r.le⟩, ?_, by omega, by omega, Below.touch (bnext h.b hb) h.la h.lb (Nat.le_refl _) hT⟩
  intro e
  have := (h.r.r.lt _ e).2
  omega
end

theorem stW_len (ws : List Int) (i x : Int) : (stW ws i x).length = ws.length := by unfold stW; split <;> simp
theorem fiW_len (ws : List Int) (i n x : Int) : (fiW ws i n x).length = ws.length := by unfold fiW; split; exact fillN_length ..; rfl
theorem mvW_len (ws : List Int) (t f n : Int) : (mvW ws t f n).length = ws.length := by
  unfold mvW
  by_cases h : mvE ws.length t f n = 0
  · rw [if_pos h]
    unfold mvE at h
    by_cases hf : hasE ws.length f n = 0
    · rw [if_pos hf] at h
      have h1 := hasE_yes hf
      have h2 := hasE_yes h
      simp [moveL]
      omega
    · rw [if_neg hf] at h; exact absurd h hf
  · rw [if_neg h]
theorem stC_le (ws : List Int) (i : Int) (c : Nat) : stC ws i c ≤ c + 65536 := by unfold stC; split <;> omega
theorem fiC_le (ws : List Int) (i n : Int) (c : Nat) (h : ws.length ≤ 65536) : fiC ws i n c ≤ c + 65536 := by
  unfold fiC
  by_cases hh : hasE ws.length i n = 0
  · rw [if_pos hh]; have := hasE_yes hh; omega
  · rw [if_neg hh]; omega
theorem mvC_le (ws : List Int) (t f n : Int) (c : Nat) (h : ws.length ≤ 65536) : mvC ws t f n c ≤ c + 65536 := by
  unfold mvC
  by_cases hh : mvE ws.length t f n = 0
  · rw [if_pos hh]
    unfold mvE at hh
    by_cases hf : hasE ws.length f n = 0
    · have := hasE_yes hf; omega
    · rw [if_neg hf] at hh; exact absurd hh hf
  · rw [if_neg hh]; omega

/-- What a step gives. -/
def GivesDoes (W : World) (bs br rb : Nat) (rs : List Value) (ws : List Int) (c : Nat) (e : Ending) (w' : World) : Prop :=
  e = .returned (.bool true) ∧ ∃ v' ws' c', Duo W w' bs br rb rs v' ws' c' ws' c' ∧ ws'.length = ws.length ∧ c' ≤ c + 65536
theorem c5 {w : World} {g : Nat} {t : TypeId} {a b c d e : Value} (h : Blk w g t #[a, b, c, d, e]) : w.cell? ⟨g, 0, none⟩ = some a ∧ w.cell? ⟨g, 1, none⟩ = some b ∧ w.cell? ⟨g, 2, none⟩ = some c ∧ w.cell? ⟨g, 3, none⟩ = some d ∧ w.cell? ⟨g, 4, none⟩ = some e := ⟨h.cell 0, h.cell 1, h.cell 2, h.cell 3, h.cell 4⟩

set_option maxRecDepth 100000 in
set_option maxHeartbeats 4000000 in
theorem does_load (W w : World) (bs br rb : Nat) (rs : List Value) (v : Value) (ws : List Int) (c : Nat) (h : Duo W w bs br rb rs v ws c ws c) (hc : c ≤ 900000000000)
    (at_ to n x : Int) (a0 : -9223372036854775808 ≤ at_) (a1 : at_ ≤ 9223372036854775807) (t0 : -9223372036854775808 ≤ to) (t1 : to ≤ 9223372036854775807) (n0 : -9223372036854775808 ≤ n) (n1 : n ≤ 9223372036854775807) :
    Calls Try.prog 40 #[.pointer (some ⟨bs, 0, none⟩), .pointer (some ⟨rb, 0, none⟩), .agg #[.int .i64 0, .int .i64 at_, .int .i64 to, .int .i64 n, .int .u64 x]] w (GivesDoes W bs br rb rs ws c) := by
  have H := Lib.hid h
  have hz := h.b.size
  have A0 := Lib.hid a0
  have A1 := Lib.hid a1
  have T0 := Lib.hid t0
  have T1 := Lib.hid t1
  have N0 := Lib.hid n0
  have N1 := Lib.hid n1
  have X0 := Lib.hid (Blk.new w 61 #[.int .i64 0, .int .i64 at_, .int .i64 to, .int .i64 n, .int .u64 x])
  have P0 := Lib.hid (h.nx ((Below.refl _ w).alloc (Nat.le_refl _) (.cells #[.int .i64 0, .int .i64 at_, .int .i64 to, .int .i64 n, .int .u64 x] 61)))
  have hlen := h.a.hi
  clear h a0 a1 t0 t1 n0 n1
  obtain ⟨k0, k1, k2, k3, k4⟩ := c5 X0.out
  go_enter Try.func40, Try.ntmps40
  go_wp2_with fail
  refine (load_any _ bs br ws rs c P0.out.a at_ A0.out A1.out).mono ?_
  rintro e w' ⟨rfl, rfl⟩
  go_wp2_with fail
  refine (rloadA_any _ W.heap.size rb v ws c P0.out.r at_ A0.out A1.out).mono ?_
  rintro e w' ⟨rfl, rfl⟩
  generalize ldV ws at_ = q1
  generalize hasE ws.length at_ 1 = q2
  have r1 : (q1 == q1) = true := by simp
  have r2 : (q2 == q2) = true := by simp
  go_wp2_with fail
  go_ret
  exact ⟨rfl, v, ws, c, P0.out, rfl, by omega⟩

set_option maxRecDepth 100000 in
set_option maxHeartbeats 4000000 in
theorem does_store (W w : World) (bs br rb : Nat) (rs : List Value) (v : Value) (ws : List Int) (c : Nat) (h : Duo W w bs br rb rs v ws c ws c) (hc : c ≤ 900000000000)
    (at_ to n x : Int) (a0 : -9223372036854775808 ≤ at_) (a1 : at_ ≤ 9223372036854775807) (t0 : -9223372036854775808 ≤ to) (t1 : to ≤ 9223372036854775807) (n0 : -9223372036854775808 ≤ n) (n1 : n ≤ 9223372036854775807) :
    Calls Try.prog 40 #[.pointer (some ⟨bs, 0, none⟩), .pointer (some ⟨rb, 0, none⟩), .agg #[.int .i64 1, .int .i64 at_, .int .i64 to, .int .i64 n, .int .u64 x]] w (GivesDoes W bs br rb rs ws c) := by
  have H := Lib.hid h
  have hz := h.b.size
  have A0 := Lib.hid a0
  have A1 := Lib.hid a1
  have T0 := Lib.hid t0
  have T1 := Lib.hid t1
  have N0 := Lib.hid n0
  have N1 := Lib.hid n1
  have X0 := Lib.hid (Blk.new w 61 #[.int .i64 1, .int .i64 at_, .int .i64 to, .int .i64 n, .int .u64 x])
  have P0 := Lib.hid (h.nx ((Below.refl _ w).alloc (Nat.le_refl _) (.cells #[.int .i64 1, .int .i64 at_, .int .i64 to, .int .i64 n, .int .u64 x] 61)))
  have hlen := h.a.hi
  clear h a0 a1 t0 t1 n0 n1
  have FA := Lib.hid (fun X (hX : IsAr X bs br ws rs c) => store_any X bs br ws rs c hX at_ x A0.out A1.out (by omega))
  have FB := Lib.hid (fun X (hX : IsRa X W.heap.size rb v ws c) (hz : W.heap.size ≤ X.heap.size) => rstoreA_any X W.heap.size rb v ws c hX at_ x A0.out A1.out hz (by omega))
  have D0 := Lib.hid P0.out.drew
  obtain ⟨k0, k1, k2, k3, k4⟩ := c5 X0.out
  go_enter Try.func40, Try.ntmps40
  go_wp2_with fail
  have LA := Lib.hid (stW_len ws at_ x)
  have LB := Lib.hid (stC_le ws at_ c)
  generalize hasE ws.length at_ 1 = q at *
  have r1 : (q == q) = true := by simp
  go_region_held3 (fun w' => w'.cell? ⟨w.heap.size, 0, none⟩ = some (.int .i64 1) ∧ w'.cell? ⟨w.heap.size, 1, none⟩ = some (.int .i64 at_) ∧ w'.cell? ⟨w.heap.size, 2, none⟩ = some (.int .i64 to) ∧ w'.cell? ⟨w.heap.size, 3, none⟩ = some (.int .i64 n) ∧ w'.cell? ⟨w.heap.size, 4, none⟩ = some (.int .u64 x)) (go_keep)
    (first
      | (go_at_call 29; refine (FA.out _ DR.out.a).mono ?_; rintro e wx ⟨rfl, hI, hT⟩; have DA := Lib.hid (DR.out.stepA hI hT); have X2 := Lib.hid (X1.out.touch hT (X1.out.ne_ DR.out.a.s (by decide)) (X1.out.ne_ DR.out.a.r (by decide))); obtain ⟨k0, k1, k2, k3, k4⟩ := c5 X2.out)
      | (go_at_call 29; refine (FA.out _ D0.out.a).mono ?_; rintro e wx ⟨rfl, hI, hT⟩; have DA := Lib.hid (D0.out.stepA hI hT); have X1 := Lib.hid (X0.out.drew.touch hT (X0.out.ne_ P0.out.a.s (by decide)) (X0.out.ne_ P0.out.a.r (by decide))); obtain ⟨k0, k1, k2, k3, k4⟩ := c5 X1.out)
      | (go_at_call 66; refine (FB.out _ DA.out.r DA.out.b.size).mono ?_; rintro e wy ⟨rfl, v2, hI, hf, hT⟩; have DR := Lib.hid (DA.out.stepR hI hf hT); have X2 := Lib.hid (X1.out.touch hT (X1.out.ne_ DA.out.r.s (by decide)) (X1.out.ne_ DA.out.r.s (by decide))); obtain ⟨k0, k1, k2, k3, k4⟩ := c5 X2.out)
      | (go_at_call 66; refine (FB.out _ D0.out.r D0.out.b.size).mono ?_; rintro e wy ⟨rfl, v2, hI, hf, hT⟩; have DR := Lib.hid (D0.out.stepR hI hf hT); have X1 := Lib.hid (X0.out.drew.touch hT (X0.out.ne_ P0.out.r.s (by decide)) (X0.out.ne_ P0.out.r.s (by decide))); obtain ⟨k0, k1, k2, k3, k4⟩ := c5 X1.out))
  all_goals
    clear k0 k1 k2 k3 k4
    go_wp2_with fail
    go_ret
    first
      | exact ⟨rfl, _, _, _, DR.out, LA.out, LB.out⟩
      | exact ⟨rfl, _, _, _, DA.out, LA.out, LB.out⟩

set_option maxRecDepth 100000 in
set_option maxHeartbeats 4000000 in
theorem does_move (W w : World) (bs br rb : Nat) (rs : List Value) (v : Value) (ws : List Int) (c : Nat) (h : Duo W w bs br rb rs v ws c ws c) (hc : c ≤ 900000000000)
    (at_ to n x : Int) (a0 : -9223372036854775808 ≤ at_) (a1 : at_ ≤ 9223372036854775807) (t0 : -9223372036854775808 ≤ to) (t1 : to ≤ 9223372036854775807) (n0 : -9223372036854775808 ≤ n) (n1 : n ≤ 9223372036854775807) :
    Calls Try.prog 40 #[.pointer (some ⟨bs, 0, none⟩), .pointer (some ⟨rb, 0, none⟩), .agg #[.int .i64 2, .int .i64 at_, .int .i64 to, .int .i64 n, .int .u64 x]] w (GivesDoes W bs br rb rs ws c) := by
  have H := Lib.hid h
  have hz := h.b.size
  have A0 := Lib.hid a0
  have A1 := Lib.hid a1
  have T0 := Lib.hid t0
  have T1 := Lib.hid t1
  have N0 := Lib.hid n0
  have N1 := Lib.hid n1
  have X0 := Lib.hid (Blk.new w 61 #[.int .i64 2, .int .i64 at_, .int .i64 to, .int .i64 n, .int .u64 x])
  have P0 := Lib.hid (h.nx ((Below.refl _ w).alloc (Nat.le_refl _) (.cells #[.int .i64 2, .int .i64 at_, .int .i64 to, .int .i64 n, .int .u64 x] 61)))
  have hlen := h.a.hi
  clear h a0 a1 t0 t1 n0 n1
  have FA := Lib.hid (fun X (hX : IsAr X bs br ws rs c) => move_any X bs br ws rs c hX to at_ n T0.out T1.out A0.out A1.out N0.out N1.out (by omega))
  have FB := Lib.hid (fun X (hX : IsRa X W.heap.size rb v ws c) (hz : W.heap.size ≤ X.heap.size) => rmoveA_any X W.heap.size rb v ws c hX to at_ n T0.out T1.out A0.out A1.out N0.out N1.out hz (by omega))
  have D0 := Lib.hid P0.out.drew
  obtain ⟨k0, k1, k2, k3, k4⟩ := c5 X0.out
  go_enter Try.func40, Try.ntmps40
  go_wp2_with fail
  have LA := Lib.hid (mvW_len ws to at_ n)
  have LB := Lib.hid (mvC_le ws to at_ n c hlen)
  generalize mvE ws.length to at_ n = q at *
  have r1 : (q == q) = true := by simp
  go_region_held3 (fun w' => w'.cell? ⟨w.heap.size, 0, none⟩ = some (.int .i64 2) ∧ w'.cell? ⟨w.heap.size, 1, none⟩ = some (.int .i64 at_) ∧ w'.cell? ⟨w.heap.size, 2, none⟩ = some (.int .i64 to) ∧ w'.cell? ⟨w.heap.size, 3, none⟩ = some (.int .i64 n) ∧ w'.cell? ⟨w.heap.size, 4, none⟩ = some (.int .u64 x)) (go_keep)
    (first
      | (go_at_call 30; refine (FA.out _ DR.out.a).mono ?_; rintro e wx ⟨rfl, hI, hT⟩; have DA := Lib.hid (DR.out.stepA hI hT); have X2 := Lib.hid (X1.out.touch hT (X1.out.ne_ DR.out.a.s (by decide)) (X1.out.ne_ DR.out.a.r (by decide))); obtain ⟨k0, k1, k2, k3, k4⟩ := c5 X2.out)
      | (go_at_call 30; refine (FA.out _ D0.out.a).mono ?_; rintro e wx ⟨rfl, hI, hT⟩; have DA := Lib.hid (D0.out.stepA hI hT); have X1 := Lib.hid (X0.out.drew.touch hT (X0.out.ne_ P0.out.a.s (by decide)) (X0.out.ne_ P0.out.a.r (by decide))); obtain ⟨k0, k1, k2, k3, k4⟩ := c5 X1.out)
      | (go_at_call 67; refine (FB.out _ DA.out.r DA.out.b.size).mono ?_; rintro e wy ⟨rfl, v2, hI, hf, hT⟩; have DR := Lib.hid (DA.out.stepR hI hf hT); have X2 := Lib.hid (X1.out.touch hT (X1.out.ne_ DA.out.r.s (by decide)) (X1.out.ne_ DA.out.r.s (by decide))); obtain ⟨k0, k1, k2, k3, k4⟩ := c5 X2.out)
      | (go_at_call 67; refine (FB.out _ D0.out.r D0.out.b.size).mono ?_; rintro e wy ⟨rfl, v2, hI, hf, hT⟩; have DR := Lib.hid (D0.out.stepR hI hf hT); have X1 := Lib.hid (X0.out.drew.touch hT (X0.out.ne_ P0.out.r.s (by decide)) (X0.out.ne_ P0.out.r.s (by decide))); obtain ⟨k0, k1, k2, k3, k4⟩ := c5 X1.out))
  all_goals
    clear k0 k1 k2 k3 k4
    go_wp2_with fail
    go_ret
    first
      | exact ⟨rfl, _, _, _, DR.out, LA.out, LB.out⟩
      | exact ⟨rfl, _, _, _, DA.out, LA.out, LB.out⟩

set_option maxRecDepth 100000 in
set_option maxHeartbeats 4000000 in
theorem does_fill (W w : World) (bs br rb : Nat) (rs : List Value) (v : Value) (ws : List Int) (c : Nat) (h : Duo W w bs br rb rs v ws c ws c) (hc : c ≤ 900000000000)
    (at_ to n x : Int) (a0 : -9223372036854775808 ≤ at_) (a1 : at_ ≤ 9223372036854775807) (t0 : -9223372036854775808 ≤ to) (t1 : to ≤ 9223372036854775807) (n0 : -9223372036854775808 ≤ n) (n1 : n ≤ 9223372036854775807) :
    Calls Try.prog 40 #[.pointer (some ⟨bs, 0, none⟩), .pointer (some ⟨rb, 0, none⟩), .agg #[.int .i64 3, .int .i64 at_, .int .i64 to, .int .i64 n, .int .u64 x]] w (GivesDoes W bs br rb rs ws c) := by
  have H := Lib.hid h
  have hz := h.b.size
  have A0 := Lib.hid a0
  have A1 := Lib.hid a1
  have T0 := Lib.hid t0
  have T1 := Lib.hid t1
  have N0 := Lib.hid n0
  have N1 := Lib.hid n1
  have X0 := Lib.hid (Blk.new w 61 #[.int .i64 3, .int .i64 at_, .int .i64 to, .int .i64 n, .int .u64 x])
  have P0 := Lib.hid (h.nx ((Below.refl _ w).alloc (Nat.le_refl _) (.cells #[.int .i64 3, .int .i64 at_, .int .i64 to, .int .i64 n, .int .u64 x] 61)))
  have hlen := h.a.hi
  clear h a0 a1 t0 t1 n0 n1
  have FA := Lib.hid (fun X (hX : IsAr X bs br ws rs c) => fill_any X bs br ws rs c hX at_ n x A0.out A1.out N0.out N1.out (by omega))
  have FB := Lib.hid (fun X (hX : IsRa X W.heap.size rb v ws c) (hz : W.heap.size ≤ X.heap.size) => rfillA_any X W.heap.size rb v ws c hX at_ n x A0.out A1.out N0.out N1.out hz (by omega))
  have D0 := Lib.hid P0.out.drew
  obtain ⟨k0, k1, k2, k3, k4⟩ := c5 X0.out
  go_enter Try.func40, Try.ntmps40
  go_wp2_with fail
  have LA := Lib.hid (fiW_len ws at_ n x)
  have LB := Lib.hid (fiC_le ws at_ n c hlen)
  generalize hasE ws.length at_ n = q at *
  have r1 : (q == q) = true := by simp
  go_region_held3 (fun w' => w'.cell? ⟨w.heap.size, 0, none⟩ = some (.int .i64 3) ∧ w'.cell? ⟨w.heap.size, 1, none⟩ = some (.int .i64 at_) ∧ w'.cell? ⟨w.heap.size, 2, none⟩ = some (.int .i64 to) ∧ w'.cell? ⟨w.heap.size, 3, none⟩ = some (.int .i64 n) ∧ w'.cell? ⟨w.heap.size, 4, none⟩ = some (.int .u64 x)) (go_keep)
    (first
      | (go_at_call 34; refine (FA.out _ DR.out.a).mono ?_; rintro e wx ⟨rfl, hI, hT⟩; have DA := Lib.hid (DR.out.stepA hI hT); have X2 := Lib.hid (X1.out.touch hT (X1.out.ne_ DR.out.a.s (by decide)) (X1.out.ne_ DR.out.a.r (by decide))); obtain ⟨k0, k1, k2, k3, k4⟩ := c5 X2.out)
      | (go_at_call 34; refine (FA.out _ D0.out.a).mono ?_; rintro e wx ⟨rfl, hI, hT⟩; have DA := Lib.hid (D0.out.stepA hI hT); have X1 := Lib.hid (X0.out.drew.touch hT (X0.out.ne_ P0.out.a.s (by decide)) (X0.out.ne_ P0.out.a.r (by decide))); obtain ⟨k0, k1, k2, k3, k4⟩ := c5 X1.out)
      | (go_at_call 68; refine (FB.out _ DA.out.r DA.out.b.size).mono ?_; rintro e wy ⟨rfl, v2, hI, hf, hT⟩; have DR := Lib.hid (DA.out.stepR hI hf hT); have X2 := Lib.hid (X1.out.touch hT (X1.out.ne_ DA.out.r.s (by decide)) (X1.out.ne_ DA.out.r.s (by decide))); obtain ⟨k0, k1, k2, k3, k4⟩ := c5 X2.out)
      | (go_at_call 68; refine (FB.out _ D0.out.r D0.out.b.size).mono ?_; rintro e wy ⟨rfl, v2, hI, hf, hT⟩; have DR := Lib.hid (D0.out.stepR hI hf hT); have X1 := Lib.hid (X0.out.drew.touch hT (X0.out.ne_ P0.out.r.s (by decide)) (X0.out.ne_ P0.out.r.s (by decide))); obtain ⟨k0, k1, k2, k3, k4⟩ := c5 X1.out))
  all_goals
    clear k0 k1 k2 k3 k4
    go_wp2_with fail
    go_ret
    first
      | exact ⟨rfl, _, _, _, DR.out, LA.out, LB.out⟩
      | exact ⟨rfl, _, _, _, DA.out, LA.out, LB.out⟩
end Go.Proofs.Ytehicgndccnopaa
