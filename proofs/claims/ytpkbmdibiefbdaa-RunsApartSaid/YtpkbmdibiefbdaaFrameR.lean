/- Arguments that are slices of steps of layer 4: opened to a list. -/
import Derived.Test.YtpkbmdibiefbdaaFrame
import Derived.Test.YtpkbmdibiefbdaaRnO
import Derived.Deep.Slices
import Derived.Deep.Fields
import Derived.ChangeSame
namespace Go.Proofs.Ytpkbmdibiefbdaa
open Go.ChangeShapes Go.WideShapes Go.ChangeAt Go.RowKit Go.Joins Go.Deep
set_option linter.unusedVariables false
set_option linter.unusedSimpArgs false

/-- A step: what is done; a run. -/
abbrev Stq := Int × Rn
def sqC (t : Stq) : List Value := [.int .i64 t.1, .int .i64 t.2.1, .int .i64 t.2.2]
theorem sqC_len (ts : List Stq) : (ts.flatMap sqC).length = ts.length * 3 := by
  induction ts with
  | nil => rfl
  | cons t ts ih => simp [List.flatMap_cons, ih, sqC]; omega
theorem sqC_at (ts : List Stq) : ∀ i, i < ts.length → (ts.flatMap sqC)[i * 3]? = some (.int .i64 (ts.getD i (0, 0, 0)).1) ∧ (ts.flatMap sqC)[i * 3 + 1]? = some (.int .i64 (ts.getD i (0, 0, 0)).2.1) ∧ (ts.flatMap sqC)[i * 3 + 2]? = some (.int .i64 (ts.getD i (0, 0, 0)).2.2) := by
  induction ts with
  | nil => intro i hi; simp at hi
  | cons t ts ih =>
    intro i hi
    cases i with
    | zero => simp [sqC]
    | succ i =>
      have := ih i (by simpa using hi)
      have e : (i + 1) * 3 = i * 3 + 3 := by omega
      rw [e]
      simpa [sqC, List.getD] using this
/-- A run's numbers are such as Go's can be. -/
structure OkQ (t : Stq) : Prop where
  a0 : -9223372036854775808 ≤ t.2.1
  a1 : t.2.1 ≤ 9223372036854775807
  l0 : -9223372036854775808 ≤ t.2.2
  l1 : t.2.2 ≤ 9223372036854775807
/-- A list of steps that came in. -/
structure StepsQ (w : World) (a : Option Addr) (len cap : Nat) (ts : List Stq) : Prop where
  r : Reads w w.heap.size 3 a len (ts.flatMap sqC)
  le : len ≤ cap
  mx : cap ≤ maxLen
  len_ : ts.length = len
  ok : ∀ t ∈ ts, OkQ t
theorem Reads.sq {w : World} {B n : Nat} {A : Option Addr} {ts : List Stq} (h : Reads w B 3 A n (ts.flatMap sqC)) {i : Nat} (hi : i < n) :
    ∃ b o, A = some ⟨b, o, none⟩ ∧ b < B ∧ w.cell? ⟨b, o + i * 3, none⟩ = some (.int .i64 (ts.getD i (0, 0, 0)).1) ∧ w.cell? ⟨b, o + i * 3 + 1, none⟩ = some (.int .i64 (ts.getD i (0, 0, 0)).2.1) ∧ w.cell? ⟨b, o + i * 3 + 2, none⟩ = some (.int .i64 (ts.getD i (0, 0, 0)).2.2) := by
  obtain ⟨b, o, rfl, hb, hc⟩ := h.spotN (by omega) (by omega)
  have hl : ts.length = n := by have := h.1; rw [sqC_len] at this; omega
  obtain ⟨a0, a1, a2⟩ := sqC_at ts i (by omega)
  exact ⟨b, o, rfl, hb, hc _ _ a0, hc _ _ a1, hc _ _ a2⟩

theorem list_ofQ {α : Type} {Q : Nat → α → Prop} : ∀ n, (∀ i, i < n → ∃ x, Q i x) → ∃ xs : List α, xs.length = n ∧ ∀ i x, xs[i]? = some x → Q i x
  | 0, _ => ⟨[], rfl, by simp⟩
  | n + 1, h => by
    obtain ⟨xs, hl, hx⟩ := list_ofQ n fun i hi => h i (by omega)
    obtain ⟨y, hy⟩ := h n (by omega)
    refine ⟨xs ++ [y], by simp [hl], fun i x hix => ?_⟩
    rcases Nat.lt_or_ge i n with hlt | hge
    · rw [List.getElem?_append_left (by omega)] at hix
      exact hx i x hix
    · have hin : i = n := by
        have := (List.getElem?_eq_some_iff.1 hix).1
        simp at this; omega
      subst hin
      rw [List.getElem?_append_right (by omega), hl] at hix
      simp at hix
      subst hix
      exact hy

theorem steps4Is_of {H : Type} {enc : TypeId × Value → H} {W : World} {base : Nat} {sp : Nat → Bool} {held : Bool} {a : Option Addr} {len cap : Nat} {d : DataW H} {p : List MemPlace}
    (h : DataW.Trod enc Try.prog W base sp held 22 (.slice a len cap) d p) : ∃ ts, StepsQ W a len cap ts := by
  have k1 : Try.prog.cellsOf 32 = 3 := by kernel_rfl
  have k2 : Try.prog.cellsOf 24 = 2 := by kernel_rfl
  have k3 : Try.prog.cellsOf 3 = 1 := by kernel_rfl
  obtain ⟨fuel, hf⟩ := h
  rcases open_slice Try.underlying22 hf with ⟨hcs, _⟩ | ⟨ad, l, c, m, n, D, Pl, hcs, hb, hl, hm, hmm, hx, hi⟩
  · simp [Value.cells] at hcs
    obtain ⟨rfl, rfl, rfl⟩ := hcs
    exact ⟨[], Reads.none_, by omega, by simp [maxLen], rfl, by simp⟩
  · simp [Value.cells] at hcs
    obtain ⟨rfl, rfl, rfl⟩ := hcs
    have hlm : len ≤ m := by rw [hmm]; split <;> omega
    obtain ⟨ts, hts, hq⟩ := list_ofQ (Q := fun i (t : Stq) => OkQ t ∧ W.cell? (ad.add (i * 3)) = some (.int .i64 t.1) ∧ W.cell? (ad.add (i * 3 + 1)) = some (.int .i64 t.2.1) ∧ W.cell? (ad.add (i * 3 + 2)) = some (.int .i64 t.2.2)) len (fun i hil => by
      obtain ⟨cs', hc, ht'⟩ := hi i (by omega)
      obtain ⟨_, hcl, hat⟩ := World.cells?_some hc
      obtain ⟨y0, y1, n1, _, hl1, h0, h1⟩ := trod_struct2 Try.underlying32 ht'
      rw [k1] at hl1 hat
      match cs', hl1 with
      | [v0, v1, v2], _ =>
        have h0' := h0
        have h1' := h1
        dsimp only at h0' h1'
        rw [k3] at h0'
        rw [k2] at h1'
        obtain ⟨x0, e0, rfl, w0⟩ := DataW.trod_int Try.underlying3 h0'
        obtain ⟨z0, z1, n2, _, hl2, g0, g1⟩ := trod_struct2 Try.underlying24 h1'
        dsimp only at g0 g1
        rw [k3] at g0 g1
        obtain ⟨x1, e1, rfl, w1⟩ := DataW.trod_int Try.underlying3 g0
        obtain ⟨x2, e2, rfl, w2⟩ := DataW.trod_int Try.underlying3 g1
        simp at e0 e1 e2
        subst e0 e1 e2
        have b1 := wf_i64 w1
        have b2 := wf_i64 w2
        refine ⟨(x0, x1, x2), ⟨b1.1, b1.2, b2.1, b2.2⟩, ?_, ?_, ?_⟩
        · have := hat 0 (by omega)
          rw [Go.Deep.add_add] at this
          exact this
        · have := hat 1 (by omega)
          rw [Go.Deep.add_add] at this
          exact this
        · have := hat 2 (by omega)
          rw [Go.Deep.add_add] at this
          exact this)
    refine ⟨ts, ⟨by rw [sqC_len, hts], fun hn => ⟨ad, rfl, ?_, fun j u hu => ?_⟩⟩, hl, hm, hts, fun t ht => ?_⟩
    · obtain ⟨t, ht⟩ : ∃ t, ts[0]? = some t := ⟨_, List.getElem?_eq_getElem (by omega)⟩
      have := add_block_lt (hq 0 t ht).2.1
      rwa [block_of_add] at this
    · have hj : j < len * 3 := by
        have := (List.getElem?_eq_some_iff.1 hu).1
        rw [sqC_len, hts] at this; exact this
      obtain ⟨i, r, rfl, hr⟩ : ∃ i r, j = i * 3 + r ∧ r < 3 := ⟨j / 3, j % 3, by omega, by omega⟩
      have hil : i < ts.length := by omega
      obtain ⟨a0, a1, a2⟩ := sqC_at ts i hil
      have hg : ts[i]? = some (ts.getD i (0, 0, 0)) := by simp [List.getD, hil]
      obtain ⟨_, c0, c1, c2⟩ := hq _ _ hg
      rcases (by omega : r = 0 ∨ r = 1 ∨ r = 2) with rfl | rfl | rfl
      · exact c0.trans (a0.symm.trans hu)
      · exact c1.trans (a1.symm.trans hu)
      · exact c2.trans (a2.symm.trans hu)
    · obtain ⟨i, hil, e⟩ := List.getElem_of_mem ht
      exact (hq i t (by rw [List.getElem?_eq_getElem hil, e])).1
end Go.Proofs.Ytpkbmdibiefbdaa
