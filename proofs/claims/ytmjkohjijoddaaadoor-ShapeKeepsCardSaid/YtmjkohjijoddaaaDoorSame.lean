/- Two rows compared: skerryref05.SameInts and its kin. -/
import Derived.Test.YtmjkohjijoddaaaDoorBase
import Derived.LoopTactic
namespace Go.Proofs.YtmjkohjijoddaaaDoor
open Go.RowKit
set_option linter.unusedVariables false
set_option linter.unusedSimpArgs false

theorem Reads.spot {w : World} {B n : Nat} {A : Option Addr} {xs : List Value} (h : Reads w B 1 A n xs) (hn : 0 < n) : ∃ b off, A = some ⟨b, off, none⟩ ∧ b < B ∧ ∀ j u, xs[j]? = some u → w.cell? ⟨b, off + j, none⟩ = some u := by
  obtain ⟨⟨b, off, spot⟩, rfl, hb, hc⟩ := h.2 hn
  have hl : 0 < xs.length := by have := h.1; omega
  have h0 := hc 0 _ (List.getElem?_eq_getElem hl)
  have hs : spot = none := by simpa [Addr.add] using World.cell?_spot h0
  subst hs
  refine ⟨b, off, rfl, hb, fun j u hu => ?_⟩
  have := hc j u hu
  rcases Nat.eq_zero_or_pos j with rfl | hj
  · simpa [Addr.add] using this
  · have hj0 : ¬ j = 0 := by omega
    simpa [Addr.add, hj0] using this

theorem take_eq_succ {α : Type} {xs ys : List α} {c : Nat} (h : xs.take c = ys.take c) (he : xs[c]? = ys[c]?) : xs.take (c + 1) = ys.take (c + 1) := by
  rw [List.take_add_one, List.take_add_one, h, he]
end Go.Proofs.YtmjkohjijoddaaaDoor
