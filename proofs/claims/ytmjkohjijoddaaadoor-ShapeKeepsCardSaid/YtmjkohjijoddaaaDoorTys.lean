/- Lists of types in memory. -/
import Derived.Test.YtmjkohjijoddaaaDoorTableC
namespace Go.Proofs.YtmjkohjijoddaaaDoor
open Go.RowKit
set_option linter.unusedVariables false
set_option linter.unusedSimpArgs false

/-- A type's numbers are such as Go's can be. -/
structure OkW (t : Ty) : Prop where
  k0 : 0 ≤ t.1
  k1 : t.1 < 256
  w0 : -9223372036854775808 ≤ t.2.1
  w1 : t.2.1 ≤ 9223372036854775807
  m1 : t.2.2 < 18446744073709551616

/-- A list of types that came in. -/
structure TysIs (w : World) (a : Option Addr) (len cap : Nat) (ts : List Ty) : Prop where
  r : Reads w w.heap.size 3 a len (ts.flatMap tyC)
  le : len ≤ cap
  mx : cap ≤ maxLen
  len_ : ts.length = len
  ok : ∀ t ∈ ts, OkW t

theorem Reads.spotN {w : World} {B size n : Nat} {A : Option Addr} {xs : List Value} (h : Reads w B size A n xs) (hn : 0 < n) (hs : 0 < size) : ∃ b off, A = some ⟨b, off, none⟩ ∧ b < B ∧ ∀ j u, xs[j]? = some u → w.cell? ⟨b, off + j, none⟩ = some u := by
  obtain ⟨⟨b, off, spot⟩, rfl, hb, hc⟩ := h.2 hn
  have hl : 0 < xs.length := by rw [h.1]; exact Nat.mul_pos hn hs
  have h0 := hc 0 _ (List.getElem?_eq_getElem hl)
  have hs : spot = none := by simpa [Addr.add] using World.cell?_spot h0
  subst hs
  refine ⟨b, off, rfl, hb, fun j u hu => ?_⟩
  have := hc j u hu
  rcases Nat.eq_zero_or_pos j with rfl | hj
  · simpa [Addr.add] using this
  · have hj0 : ¬ j = 0 := by omega
    simpa [Addr.add, hj0] using this

/-- One type of a list that is read. -/
theorem Reads.ty {w : World} {B n : Nat} {A : Option Addr} {ts : List Ty} (h : Reads w B 3 A n (ts.flatMap tyC)) {i : Nat} (hi : i < n) :
    ∃ b o, A = some ⟨b, o, none⟩ ∧ b < B ∧ w.cell? ⟨b, o + i * 3, none⟩ = some (.int .u8 (ts.getD i (0, 0, 0)).1) ∧ w.cell? ⟨b, o + i * 3 + 1, none⟩ = some (.int .i64 (ts.getD i (0, 0, 0)).2.1) ∧ w.cell? ⟨b, o + i * 3 + 2, none⟩ = some (.int .u64 ((ts.getD i (0, 0, 0)).2.2 : Int)) := by
  obtain ⟨b, o, rfl, hb, hc⟩ := h.spotN (by omega) (by omega)
  have hl : ts.length = n := by have := h.1; rw [tyC_len] at this; omega
  obtain ⟨a0, a1, a2⟩ := tyC_at ts i (by omega)
  exact ⟨b, o, rfl, hb, hc _ _ a0, hc _ _ a1, hc _ _ a2⟩
end Go.Proofs.YtmjkohjijoddaaaDoor
