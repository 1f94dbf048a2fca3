/- Runs: Cut, whole; what Add makes of a chain. -/
import Derived.Test.YtpkbmdibiefbdaaRnL
namespace Go.Proofs.Ytpkbmdibiefbdaa
open Go.RowKit Go.Shelf
set_option linter.unusedVariables false
set_option linter.unusedSimpArgs false

theorem cut_any (w : World) (B sb : Nat) (rs : List Rn) (h : IsSet w B sb rs) (hBw : B ≤ w.heap.size) (a l : Int) :
    Calls Try.prog 12 #[.pointer (some ⟨sb, 0, none⟩), .agg #[.int .i64 a, .int .i64 l]] w (GivesCut B sb rs (a, l) w) := by
  cases hm : mayB a l
  · refine (cut_arg w sb a l hm).mono ?_
    rintro e w' ⟨rfl, hb⟩
    have hE : cutE rs (a, l) = 2 := by simp [cutE, hm]
    exact ⟨by rw [hE], fun _ => h.nx hb, fun h0 => (by rw [hE] at h0; cases h0), KpR.of_below hb hBw⟩
  · exact cut_ok w B sb rs h hBw a l hm

/-- A node is laid behind x. -/
theorem ins_chain {W W' : World} {p q : List Nd} {x m : Nd} (h : IsCh W (p ++ x :: q)) (hM : Blk W' m.1 48 (ndC m (hdP q none))) (hf : W.heap.size ≤ m.1)
    (hx : Blk W' x.1 48 (ndC x (some ⟨m.1, 0, none⟩))) (hk : ∀ b cs, b ≠ x.1 → Blk W b 48 cs → Blk W' b 48 cs) : IsCh W' (p ++ x :: m :: q) := by
  obtain ⟨h1, h2, h3⟩ := isCh_iff.1 h
  have hlt := h3.lt
  obtain ⟨s1, s2, s4⟩ := seg_append.1 h3
  rw [List.map_append, List.nodup_append] at h2
  obtain ⟨n1, n2, n3⟩ := h2
  simp only [List.map_cons, List.nodup_cons] at n2
  obtain ⟨n22, n24⟩ := n2
  have hfr : ∀ y ∈ p ++ x :: q, y.1 ≠ m.1 := fun y hy => by
    have := hlt y hy
    omega
  refine isCh_iff.2 ⟨by simp, ?_, seg_append.2 ⟨?_, hx, hM, ?_⟩⟩
  · rw [List.map_append, List.nodup_append, List.map_cons, List.nodup_cons, List.map_cons, List.nodup_cons]
    refine ⟨n1, ⟨?_, ?_, n24⟩, ?_⟩
    · rw [List.mem_cons, not_or]
      exact ⟨hfr x (by simp), n22⟩
    · intro hm
      obtain ⟨y, hy, he⟩ := List.mem_map.1 hm
      exact hfr y (by simp [hy]) he
    · rintro a ha b hb rfl
      obtain ⟨z, hz, he⟩ := List.mem_map.1 ha
      simp only [List.mem_cons] at hb
      rcases hb with hb | hb | hb
      · exact n3 a ha x.1 (by simp) hb
      · exact hfr z (by simp [hz]) (he.trans hb)
      · exact n3 a ha a (by simp only [List.map_cons, List.mem_cons]; exact .inr hb) rfl
  · exact s1.keep fun z hz cs hb => hk z.1 cs (n3 z.1 (List.mem_map_of_mem hz) x.1 (by simp)) hb
  · exact s4.keep fun z hz cs hb => hk z.1 cs (fun e => n22 (e ▸ List.mem_map_of_mem hz)) hb

theorem ndB_hd {ch : List Nd} (h : ch ≠ []) : (some ⟨ndB ch 0, 0, none⟩ : Option Addr) = hdP ch none := by
  cases ch with
  | nil => exact absurd rfl h
  | cons x t => rfl

theorem add_set {W' : World} {B sb N : Nat} {ch p q : List Nd} {x : Nd} {rs : List Rn} {a l : Int} (hch : ch = p ++ x :: q) (he : ch.map Prod.snd = (-2, 1) :: rs) (hbb : ∀ z ∈ ch, B ≤ z.1) (hg : GoodR rs) (hN : B ≤ N)
    (hs : Blk W' sb 50 #[.pointer (some ⟨ndB ch 0, 0, none⟩)]) (hC : IsCh W' (p ++ jnN (x :: jnN ((N, a, l) :: q)))) (h0 : 0 ≤ a) (h1 : 1 ≤ l) (h2 : a + l ≤ 65536) (hx : x.2.1 + x.2.2 ≤ a) (hq : ∀ y ∈ q, a + l ≤ y.2.1) :
    ∃ rs', IsSet W' B sb rs' ∧ (∀ i, memR rs' i = (memR rs i || inR (a, l) i)) ∧ sumR rs' = sumR rs + l := by
  have he2 : (-2, 1) :: rs = p.map Prod.snd ++ x.2 :: q.map Prod.snd := by rw [← he, hch]; simp
  obtain ⟨l', e1, e2, e3, e4⟩ := ins_good (r := (a, l)) hg he2 h0 h1 h2 hx (fun y hy => by
    obtain ⟨z, hz, rfl⟩ := List.mem_map.1 hy
    exact hq z hz)
  refine ⟨l', ⟨_, ⟨?_, hC⟩, ?_, ?_, e2⟩, e3, e4⟩
  · have hne : p ++ jnN (x :: jnN ((N, a, l) :: q)) ≠ [] := by simp [jnN_ne]
    rw [ndB_hd hne]
    rw [ndB_hd (by rw [hch]; simp), hch] at hs
    cases p with
    | nil => rw [List.nil_append, jnN_hd]; exact hs
    | cons y p => exact hs
  · rw [← e1, insR, List.map_append, jnN_snd, List.map_cons, jnN_snd]
    rfl
  · intro z hz
    have hz1 : z.1 ∈ (p ++ x :: (N, a, l) :: q).map Prod.fst := by
      have hm : z.1 ∈ (p ++ jnN (x :: jnN ((N, a, l) :: q))).map Prod.fst := List.mem_map_of_mem hz
      rw [List.map_append, List.mem_append] at hm
      rw [List.map_append, List.mem_append]
      rcases hm with hm | hm
      · exact .inl hm
      · refine .inr ?_
        have h3 := (jnN_sub _).subset hm
        rw [List.map_cons, List.mem_cons] at h3
        rw [List.map_cons, List.mem_cons]
        rcases h3 with h3 | h3
        · exact .inl h3
        · exact .inr ((jnN_sub _).subset h3)
    obtain ⟨y, hy, hye⟩ := List.mem_map.1 hz1
    rw [← hye]
    simp only [List.mem_append, List.mem_cons] at hy
    rcases hy with hy | rfl | rfl | hy
    · exact hbb y (by rw [hch]; simp [hy])
    · exact hbb y (by rw [hch]; simp)
    · exact hN
    · exact hbb y (by rw [hch]; simp [hy])

/-- Behind which node a run is laid: of those that came. -/
def atI (rs : List Rn) (a : Int) {n : Nat} (pre : List (Fin n)) : Nat := pre.foldl (fun k y => if (rs.getD y.val (0, 0)).1 < a then y.val + 1 else k) 0
theorem atI_snoc (rs : List Rn) (a : Int) {n : Nat} (pre : List (Fin n)) (y : Fin n) : atI rs a (pre ++ [y]) = if (rs.getD y.val (0, 0)).1 < a then y.val + 1 else atI rs a pre := by simp [atI]
theorem atI_all (rs : List Rn) (a : Int) (ch : List Nd) : ∀ m, m ≤ ch.length - 1 → atI rs a (chP ch m) ≤ m ∧ (∀ j, j + 1 = atI rs a (chP ch m) → (rs.getD j (0, 0)).1 < a) ∧ ∀ j, atI rs a (chP ch m) ≤ j → j < m → ¬ (rs.getD j (0, 0)).1 < a
  | 0, _ => by
    have e : atI rs a (chP ch 0) = 0 := rfl
    rw [e]
    exact ⟨Nat.le_refl _, fun j h => by omega, fun j h h2 => by omega⟩
  | m + 1, hm => by
    obtain ⟨h1, h2, h3⟩ := atI_all rs a ch m (by omega)
    rw [chP_succ ch m (by omega), atI_snoc]
    dsimp only
    split
    · rename_i hl
      refine ⟨Nat.le_refl _, fun j hj => ?_, fun j h4 h5 => by omega⟩
      obtain rfl : j = m := by omega
      exact hl
    · rename_i hl
      refine ⟨by omega, h2, fun j h4 h5 => ?_⟩
      by_cases hj : j = m
      · subst hj; exact hl
      · exact h3 j h4 (by omega)
theorem ch_at {ch : List Nd} {k : Nat} (h : k < ch.length) : ∃ p x q, ch = p ++ x :: q ∧ p.length = k ∧ ndB ch k = x.1 ∧ ch.getD k (0, 0, 0) = x := by
  refine ⟨ch.take k, ch[k], ch.drop (k + 1), ?_, by simp; omega, by simp [ndB, List.getD, h], by simp [List.getD, h]⟩
  rw [← List.drop_eq_getElem_cons h, List.take_append_drop]
theorem ch_at2 {ch : List Nd} {k : Nat} (h : k < ch.length) : ∃ p xb xA xL q, ch = p ++ ((xb, xA, xL) : Nd) :: q ∧ p.length = k ∧ ndB ch k = xb := by
  obtain ⟨p, ⟨xb, xA, xL⟩, q, h1, h2, h3, _⟩ := ch_at h
  exact ⟨p, xb, xA, xL, q, h1, h2, h3⟩
/-- The node behind which a run is laid, and what lies about it. -/
theorem at_facts {ch p q : List Nd} {x : Nd} {rs : List Rn} {a l : Int} {k : Nat} (hch : ch = p ++ x :: q) (hp : p.length = k) (he : ch.map Prod.snd = (-2, 1) :: rs) (hg : GoodR rs) (h0 : 0 ≤ a) (h1 : 1 ≤ l)
    (ha : ∀ j, j + 1 = k → (rs.getD j (0, 0)).1 < a) (hb : ∀ j, k ≤ j → j < rs.length → ¬ (rs.getD j (0, 0)).1 < a) (hno : ∀ n ∈ rs, meetB a l n.1 n.2 = false) :
    x.2.1 + x.2.2 ≤ a ∧ (-10 ≤ x.2.1 ∧ 0 ≤ x.2.2 ∧ x.2.1 + x.2.2 ≤ 65536) ∧ (∀ y ∈ q, a + l ≤ y.2.1 ∧ 0 ≤ y.2.2 ∧ y.2.2 ≤ 65536) := by
  have hl := ch_len he
  have hno2 : ∀ n ∈ rs, ¬ (a < n.1 + n.2 ∧ n.1 < a + l) := fun n hn h => by
    have := hno n hn
    simp [meetB] at this
    omega
  have hchl : ch.length = k + 1 + q.length := by rw [hch]; simp; omega
  refine ⟨?_, ?_, fun y hy => ?_⟩
  · cases k with
    | zero =>
      cases p with
      | nil => rw [hch] at he; simp at he; rw [he.1]; dsimp only; omega
      | cons z p => simp at hp
    | succ j =>
      have e := ch_nd he j (by omega)
      have hx : ch.getD (j + 1) (0, 0, 0) = x := by rw [hch]; simp [List.getD, ← hp]
      rw [hx] at e
      have hm := rs_mem (rs := rs) (i := j) (by omega)
      rw [← e] at hm
      have h3 := ha j rfl
      rw [← e] at h3
      have h4 := hno2 _ hm
      have h5 := good_bd hg hm
      omega
  · cases k with
    | zero =>
      cases p with
      | nil => rw [hch] at he; simp at he; rw [he.1]; dsimp only; omega
      | cons z p => simp at hp
    | succ j =>
      have e := ch_nd he j (by omega)
      have hx : ch.getD (j + 1) (0, 0, 0) = x := by rw [hch]; simp [List.getD, ← hp]
      rw [hx] at e
      have hm := rs_mem (rs := rs) (i := j) (by omega)
      rw [← e] at hm
      have h5 := good_bd hg hm
      omega
  · obtain ⟨i, hi, rfl⟩ := List.getElem_of_mem hy
    have e := ch_nd he (k + i) (by omega)
    have hx : ch.getD (k + i + 1) (0, 0, 0) = q[i] := by
      rw [hch]
      simp only [List.getD]
      rw [List.getElem?_append_right (by omega), show k + i + 1 - p.length = i + 1 by omega, List.getElem?_cons_succ, List.getElem?_eq_getElem hi]
      rfl
    rw [hx] at e
    have hm := rs_mem (rs := rs) (i := k + i) (by omega)
    rw [← e] at hm
    have h3 := hb (k + i) (by omega) (by omega)
    rw [← e] at h3
    have h4 := hno2 _ hm
    have h5 := good_bd hg hm
    omega
theorem join_keeps (w : World) (B : Nat) (p : List Nd) (x : Nd) (t : List Nd) (h : IsCh w (p ++ x :: t)) (hB : B ≤ x.1)
    (hx : -10 ≤ x.2.1 ∧ 0 ≤ x.2.2 ∧ x.2.1 + x.2.2 ≤ 1000000) (ht : ∀ y ∈ t, 0 ≤ y.2.2 ∧ y.2.2 ≤ 1000000) :
    Calls Try.prog 25 #[.pointer (some ⟨x.1, 0, none⟩)] w fun e w' => (∃ v, e = .returned v) ∧ IsCh w' (p ++ jnN (x :: t)) ∧ KpR B w w' ∧ (∀ (b : Nat) (o : Obj), w.heap[b]? = some o → o.isCells = false → w'.heap[b]? = some o) := by
  obtain ⟨h1, h2, h3⟩ := isCh_iff.1 h
  match t, h1, h2, h3, h, ht with
  | [], h1, h2, h3, h, ht =>
    refine (join_last w x.1 x.2.1 x.2.2 (seg_append.1 h3).2.1).mono ?_
    rintro e w' ⟨hv, rfl⟩
    exact ⟨hv, h, KpR.refl _ _, fun _ _ h _ => h⟩
  | y :: t, h1, h2, h3, h, ht =>
    obtain ⟨s1, s2, s3, s4⟩ := seg_append.1 h3
    have hy := ht y (by simp)
    rw [List.map_append, List.nodup_append] at h2
    obtain ⟨n1, n2, n3⟩ := h2
    simp only [List.map_cons, List.nodup_cons, List.mem_cons, not_or] at n2
    obtain ⟨⟨n21, n22⟩, n23, n24⟩ := n2
    by_cases he : x.2.1 + x.2.2 = y.2.1
    · refine (join_meet w x.1 y.1 n21 x.2.1 x.2.2 y.2.1 y.2.2 (hdP t none) s2 s3 (by omega) he).mono ?_
      rintro e w' ⟨hv, k, rfl⟩
      have hk : ∀ z : Nd, z.1 ≠ x.1 → ∀ cs, Blk w z.1 48 cs → Blk (((w.drewN k).setCell ⟨x.1, 1, none⟩ (.int .i64 (x.2.2 + y.2.2))).setCell ⟨x.1, 2, none⟩ (.pointer (hdP t none))) z.1 48 cs := fun z hz cs hb =>
        ((hb.drewN k).far (p := ⟨x.1, 1, none⟩) hz _).far (p := ⟨x.1, 2, none⟩) hz _
      have e1 := (s2.drewN k).set_ 1 (.int .i64 (x.2.2 + y.2.2))
      refine ⟨hv, isCh_iff.2 ⟨by simp [jnN_ne], ?_, ?_⟩, ?_, fun b o h hc => (KeepsOthers.setCell _ _ _).same b o ((KeepsOthers.setCell (w.drewN k) _ _).same b o h hc) hc⟩
      · rw [List.map_append, List.nodup_append]
        refine ⟨n1, ?_, fun a ha b hb => n3 a ha b ((jnN_sub _).subset hb)⟩
        simp only [jnN, he, if_true, List.map_cons, List.nodup_cons]
        exact ⟨n22, n24⟩
      · simp only [jnN, he, if_true]
        refine seg_append.2 ⟨s1.keep fun z hz => hk z ?_, ?_, s4.keep fun z hz => hk z ?_⟩
        · exact n3 z.1 (List.mem_map_of_mem hz) x.1 (by simp)
        · exact e1.set_ 2 (.pointer (hdP t none))
        · rintro e
          exact n22 (e ▸ List.mem_map_of_mem hz)
      · exact (KpR.drewN B w k).t ((KpR.set_ (i := 1) (s2.drewN k) hB _).t (KpR.set_ (i := 2) e1 hB _))
    · refine (join_apart w x.1 y.1 x.2.1 x.2.2 y.2.1 y.2.2 (hdP t none) s2 s3 hx he).mono ?_
      rintro e w' ⟨hv, k, rfl⟩
      refine ⟨hv, ?_, KpR.drewN B w k, fun _ _ h _ => h⟩
      simp only [jnN, he, if_false]
      exact h.nx (bdrewN (Below.refl _ w) k)
theorem jnN_bd {m : Nd} {q : List Nd} (hm : 0 ≤ m.2.2 ∧ m.2.2 ≤ 65536) (hq : ∀ y ∈ q, 0 ≤ y.2.2 ∧ y.2.2 ≤ 65536) : ∀ y ∈ jnN (m :: q), 0 ≤ y.2.2 ∧ y.2.2 ≤ 1000000 := by
  intro y hy
  match q, hq, hy with
  | [], _, hy => simp [jnN] at hy; subst hy; omega
  | z :: t, hq, hy =>
    have hz := hq z (by simp)
    simp only [jnN] at hy
    split at hy
    · rcases List.mem_cons.1 hy with rfl | hy
      · dsimp only; omega
      · have := hq y (by simp [hy]); omega
    · rcases List.mem_cons.1 hy with rfl | hy
      · omega
      · have := hq y hy; omega
end Go.Proofs.Ytpkbmdibiefbdaa
