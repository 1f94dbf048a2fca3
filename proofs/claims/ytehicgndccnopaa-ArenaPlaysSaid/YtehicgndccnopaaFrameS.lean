/- Arguments that are slices of steps of layer 2: opened to a list. -/
import Derived.Test.YtehicgndccnopaaFrame
import Derived.Deep.Slices
import Derived.Deep.Fields
import Derived.ChangeSame
namespace Go.Proofs.Ytehicgndccnopaa
open Go.ChangeShapes Go.WideShapes Go.ChangeAt Go.RowKit Go.Joins Go.Deep
set_option linter.unusedVariables false
set_option linter.unusedSimpArgs false

/-- A step: what is done; at; to; n; a word. -/
abbrev Stp := Int × Int × Int × Int × Int
def spC (t : Stp) : List Value := [.int .i64 t.1, .int .i64 t.2.1, .int .i64 t.2.2.1, .int .i64 t.2.2.2.1, .int .u64 t.2.2.2.2]
theorem spC_len (ts : List Stp) : (ts.flatMap spC).length = ts.length * 5 := by
  induction ts with
  | nil => rfl
  | cons t ts ih => simp [List.flatMap_cons, ih, spC]; omega
theorem spC_at (ts : List Stp) : ∀ i, i < ts.length → (ts.flatMap spC)[i * 5]? = some (.int .i64 (ts.getD i (0, 0, 0, 0, 0)).1) ∧ (ts.flatMap spC)[i * 5 + 1]? = some (.int .i64 (ts.getD i (0, 0, 0, 0, 0)).2.1) ∧ (ts.flatMap spC)[i * 5 + 2]? = some (.int .i64 (ts.getD i (0, 0, 0, 0, 0)).2.2.1) ∧ (ts.flatMap spC)[i * 5 + 3]? = some (.int .i64 (ts.getD i (0, 0, 0, 0, 0)).2.2.2.1) ∧ (ts.flatMap spC)[i * 5 + 4]? = some (.int .u64 (ts.getD i (0, 0, 0, 0, 0)).2.2.2.2) := by
  induction ts with
  | nil => intro i hi; simp at hi
  | cons t ts ih =>
    intro i hi
    cases i with
    | zero => simp [spC]
    | succ i =>
      have := ih i (by simpa using hi)
      have e : (i + 1) * 5 = i * 5 + 5 := by omega
      rw [e]
      simpa [spC, List.getD] using this
/-- A step's numbers are such as Go's can be. -/
structure OkS (t : Stp) : Prop where
  a0 : -9223372036854775808 ≤ t.2.1
  a1 : t.2.1 ≤ 9223372036854775807
  t0 : -9223372036854775808 ≤ t.2.2.1
  t1 : t.2.2.1 ≤ 9223372036854775807
  n0 : -9223372036854775808 ≤ t.2.2.2.1
  n1 : t.2.2.2.1 ≤ 9223372036854775807
/-- A list of steps that came in. -/
structure StepsIs (w : World) (a : Option Addr) (len cap : Nat) (ts : List Stp) : Prop where
  r : Reads w w.heap.size 5 a len (ts.flatMap spC)
  le : len ≤ cap
  mx : cap ≤ maxLen
  len_ : ts.length = len
  ok : ∀ t ∈ ts, OkS t
theorem Reads.spotS {w : World} {B size n : Nat} {A : Option Addr} {xs : List Value} (h : Reads w B size A n xs) (hn : 0 < n) (hs : 0 < size) : ∃ b off, A = some ⟨b, off, none⟩ ∧ b < B ∧ ∀ j u, xs[j]? = some u → w.cell? ⟨b, off + j, none⟩ = some u := by
  obtain ⟨⟨b, off, spot⟩, rfl, hb, hc⟩ := h.2 hn
  have hl : 0 < xs.length := by rw [h.1]; exact Nat.mul_pos hn hs
  have h0 := hc 0 _ (List.getElem?_eq_getElem hl)
  have hs : spot = none := by simpa [Addr.add] using World.cell?_spot h0
  subst hs
  refine ⟨b, off, rfl, hb, fun j u hu => ?_⟩
  have := hc j u hu
  rcases Nat.eq_zero_or_pos j with rfl | hj
  · simpa [Addr.add] using this
  · have hj0 : ¬ j = 0 := by omega
    simpa [Addr.add, hj0] using this
theorem Reads.sp {w : World} {B n : Nat} {A : Option Addr} {ts : List Stp} (h : Reads w B 5 A n (ts.flatMap spC)) {i : Nat} (hi : i < n) :
    ∃ b o, A = some ⟨b, o, none⟩ ∧ b < B ∧ w.cell? ⟨b, o + i * 5, none⟩ = some (.int .i64 (ts.getD i (0, 0, 0, 0, 0)).1) ∧ w.cell? ⟨b, o + i * 5 + 1, none⟩ = some (.int .i64 (ts.getD i (0, 0, 0, 0, 0)).2.1) ∧ w.cell? ⟨b, o + i * 5 + 2, none⟩ = some (.int .i64 (ts.getD i (0, 0, 0, 0, 0)).2.2.1) ∧ w.cell? ⟨b, o + i * 5 + 3, none⟩ = some (.int .i64 (ts.getD i (0, 0, 0, 0, 0)).2.2.2.1) ∧ w.cell? ⟨b, o + i * 5 + 4, none⟩ = some (.int .u64 (ts.getD i (0, 0, 0, 0, 0)).2.2.2.2) := by
  obtain ⟨b, o, rfl, hb, hc⟩ := h.spotS (by omega) (by omega)
  have hl : ts.length = n := by have := h.1; rw [spC_len] at this; omega
  obtain ⟨a0, a1, a2, a3, a4⟩ := spC_at ts i (by omega)
  exact ⟨b, o, rfl, hb, hc _ _ a0, hc _ _ a1, hc _ _ a2, hc _ _ a3, hc _ _ a4⟩

section
variable {H : Type} {enc : TypeId × Value → H} {P : Program} {w : World} {base : Nat} {spare : Nat → Bool} {held : Bool}
theorem open_slice_fieldsS {t e : TypeId} {fs : Array Field} {fuel : Nat} {cs : List Value} {x : DataW H × List MemPlace} (ht : P.underlying t = some (.slice e)) (he : P.underlying e = some (.struct fs))
    (hone : oneCellFields P fs = true) (hC : P.cellsOf e = fs.size) (h : DataW.trod enc P w base spare held fuel t cs = some x) :
    (cs = [.slice none 0 0] ∧ x = (.nil, [])) ∨
    ∃ (a : Addr) (len cap m : Nat) (D : Nat → DataW H) (Pl : Nat → List MemPlace), cs = [.slice (some a) len cap] ∧ base ≤ a.block ∧ len ≤ cap ∧ cap ≤ maxLen ∧ m = (if spare a.block then cap else len) ∧
      x = (.slice ((List.range len).map D) ((List.range (m - len)).map fun j => D (len + j)), MemPlace.row a (m * fs.size) ++ (List.range m).flatMap Pl) ∧
      ∀ i, i < m → ∃ (ys : List (DataW H × List MemPlace)) (n : Nat), D i = .agg (ys.map (·.1)) ∧ Pl i = ys.flatMap (·.2) ∧ ys.length = fs.size ∧
        ∀ (j : Nat) (f : Field), fs[j]? = some f → ∃ (v : Value) (y : DataW H × List MemPlace), w.cell? (a.add (i * fs.size + j)) = some v ∧ ys[j]? = some y ∧ DataW.trod enc P w base spare held n f.type [v] = some y := by
  rcases open_slice ht h with h0 | ⟨a, len, cap, m, n, D, Pl, hcs, hb, hl, hm, hmm, hx, hi⟩
  · exact .inl h0
  · refine .inr ⟨a, len, cap, m, D, Pl, hcs, hb, hl, hm, hmm, by rw [hC] at hx; exact hx, fun i him => ?_⟩
    obtain ⟨cs', hc, ht'⟩ := hi i him
    rw [hC] at hc
    obtain ⟨ys, n', hn', hy, hlen, hyl, hf⟩ := DataW.trod_struct he ht'
    obtain ⟨_, hcl, hat⟩ := World.cells?_some hc
    simp only [Prod.mk.injEq] at hy
    refine ⟨ys, n', hy.1, hy.2, hyl, fun j f hj => ?_⟩
    obtain ⟨ho, hk⟩ := hone_of hone j f hj
    have hjl : j < fs.size := (Array.getElem?_eq_some_iff.1 hj).1
    have hcell := hat j hjl
    have hv : cs'[j]? = some (cs'[j]'(by omega)) := List.getElem?_eq_getElem (by omega)
    have h1 := hf j f hj
    rw [ho, hk] at h1
    have hone' : (cs'.drop j).take 1 = [cs'[j]'(by omega)] := by
      rw [List.drop_eq_getElem_cons (by omega)]
      rfl
    rw [hone'] at h1
    have hys : ys[j]? = some (ys[j]'(by omega)) := List.getElem?_eq_getElem (by omega)
    refine ⟨_, _, ?_, hys, h1.trans hys⟩
    rw [← Go.Deep.add_add, hcell, hv]
end

theorem list_ofS {α : Type} {Q : Nat → α → Prop} : ∀ n, (∀ i, i < n → ∃ x, Q i x) → ∃ xs : List α, xs.length = n ∧ ∀ i x, xs[i]? = some x → Q i x
  | 0, _ => ⟨[], rfl, by simp⟩
  | n + 1, h => by
    obtain ⟨xs, hl, hx⟩ := list_ofS n fun i hi => h i (by omega)
    obtain ⟨y, hy⟩ := h n (by omega)
    refine ⟨xs ++ [y], by simp [hl], fun i x hix => ?_⟩
    rcases Nat.lt_or_ge i n with hlt | hge
    · rw [List.getElem?_append_left (by omega)] at hix
      exact hx i x hix
    · have hin : i = n := by
        have := (List.getElem?_eq_some_iff.1 hix).1
        simp at this; omega
      subst hin
      rw [List.getElem?_append_right (by omega), hl] at hix
      simp at hix
      subst hix
      exact hy

theorem steps2Is_of {H : Type} {enc : TypeId × Value → H} {W : World} {base : Nat} {sp : Nat → Bool} {held : Bool} {a : Option Addr} {len cap : Nat} {d : DataW H} {p : List MemPlace}
    (h : DataW.Trod enc Try.prog W base sp held 55 (.slice a len cap) d p) : ∃ ts, StepsIs W a len cap ts := by
  obtain ⟨fuel, hf⟩ := h
  rcases open_slice_fieldsS Try.underlying55 Try.underlying61 (by kernel_rfl) (by kernel_rfl) hf with ⟨hcs, _⟩ | ⟨ad, l, c, m, D, Pl, hcs, _, hl, hm, hmm, _, hi⟩
  · simp [Value.cells] at hcs
    obtain ⟨rfl, rfl, rfl⟩ := hcs
    exact ⟨[], Reads.none_, by omega, by simp [maxLen], rfl, by simp⟩
  · simp [Value.cells] at hcs
    obtain ⟨rfl, rfl, rfl⟩ := hcs
    have hlm : len ≤ m := by rw [hmm]; split <;> omega
    obtain ⟨ts, hts, hq⟩ := list_ofS (Q := fun i (t : Stp) => OkS t ∧ W.cell? (ad.add (i * 5)) = some (.int .i64 t.1) ∧ W.cell? (ad.add (i * 5 + 1)) = some (.int .i64 t.2.1) ∧ W.cell? (ad.add (i * 5 + 2)) = some (.int .i64 t.2.2.1) ∧ W.cell? (ad.add (i * 5 + 3)) = some (.int .i64 t.2.2.2.1) ∧ W.cell? (ad.add (i * 5 + 4)) = some (.int .u64 t.2.2.2.2)) len (fun i hil => by
      obtain ⟨ys, n, _, _, _, hg⟩ := hi i (by omega)
      obtain ⟨v0, y0, hc0, _, ht0⟩ := hg 0 _ rfl
      obtain ⟨v1, y1, hc1, _, ht1⟩ := hg 1 _ rfl
      obtain ⟨v2, y2, hc2, _, ht2⟩ := hg 2 _ rfl
      obtain ⟨v3, y3, hc3, _, ht3⟩ := hg 3 _ rfl
      obtain ⟨v4, y4, hc4, _, ht4⟩ := hg 4 _ rfl
      obtain ⟨x0, e0, rfl, w0⟩ := DataW.trod_int Try.underlying3 ht0
      obtain ⟨x1, e1, rfl, w1⟩ := DataW.trod_int Try.underlying3 ht1
      obtain ⟨x2, e2, rfl, w2⟩ := DataW.trod_int Try.underlying3 ht2
      obtain ⟨x3, e3, rfl, w3⟩ := DataW.trod_int Try.underlying3 ht3
      obtain ⟨x4, e4, rfl, w4⟩ := DataW.trod_int Try.underlying22 ht4
      simp only [List.cons.injEq, and_true] at e0 e1 e2 e3 e4
      subst e0 e1 e2 e3 e4
      have b1 := wf_i64 w1
      have b2 := wf_i64 w2
      have b3 := wf_i64 w3
      exact ⟨(x0, x1, x2, x3, x4), ⟨b1.1, b1.2, b2.1, b2.2, b3.1, b3.2⟩, hc0, hc1, hc2, hc3, hc4⟩)
    refine ⟨ts, ⟨by rw [spC_len, hts], fun hn => ⟨ad, rfl, ?_, fun j u hu => ?_⟩⟩, hl, hm, hts, fun t ht => ?_⟩
    · obtain ⟨t, ht⟩ : ∃ t, ts[0]? = some t := ⟨_, List.getElem?_eq_getElem (by omega)⟩
      have := add_block_lt (hq 0 t ht).2.1
      rwa [block_of_add] at this
    · have hj : j < len * 5 := by
        have := (List.getElem?_eq_some_iff.1 hu).1
        rw [spC_len, hts] at this; exact this
      obtain ⟨i, r, rfl, hr⟩ : ∃ i r, j = i * 5 + r ∧ r < 5 := ⟨j / 5, j % 5, by omega, by omega⟩
      have hil : i < ts.length := by omega
      obtain ⟨a0, a1, a2, a3, a4⟩ := spC_at ts i hil
      have hg : ts[i]? = some (ts.getD i (0, 0, 0, 0, 0)) := by simp [List.getD, hil]
      obtain ⟨_, c0, c1, c2, c3, c4⟩ := hq _ _ hg
      rcases (by omega : r = 0 ∨ r = 1 ∨ r = 2 ∨ r = 3 ∨ r = 4) with rfl | rfl | rfl | rfl | rfl
      · exact c0.trans (a0.symm.trans hu)
      · exact c1.trans (a1.symm.trans hu)
      · exact c2.trans (a2.symm.trans hu)
      · exact c3.trans (a3.symm.trans hu)
      · exact c4.trans (a4.symm.trans hu)
    · obtain ⟨i, hil, e⟩ := List.getElem_of_mem ht
      exact (hq i t (by rw [List.getElem?_eq_getElem hil, e])).1
end Go.Proofs.Ytehicgndccnopaa
