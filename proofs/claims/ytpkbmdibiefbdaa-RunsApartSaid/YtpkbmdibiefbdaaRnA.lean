/- Runs in memory: the chain of nodes, and the iterator over it. -/
import Derived.Test.YtpkbmdibiefbdaaBase
import Derived.RangeFuncBox
import Derived.RangeFuncCalls
import Derived.RangeFuncLeaves
import Derived.Shelf.Abstract
import Derived.WalkKit
import Derived.OwnWalkIn
import Derived.TacticsInMore
import Derived.LoopNIn
import Derived.LoopIn
import Derived.Maps.AppendAt
import Derived.RegionIn
import Derived.Shelf.RegionOpen
import Derived.LoopTactic
namespace Go.Proofs.Ytpkbmdibiefbdaa
open Go.RowKit Go.Shelf
set_option linter.unusedVariables false
set_option linter.unusedSimpArgs false

attribute [local go_sem] Oper.semAt_some

/-- A node: its block, At, Len. -/
abbrev Nd := Nat × Int × Int
def ndB (ch : List Nd) (i : Nat) : Nat := (ch.getD i (0, 0, 0)).1
def ndN (ch : List Nd) (i : Nat) : Option Addr := if i + 1 < ch.length then some ⟨ndB ch (i + 1), 0, none⟩ else none
/-- A chain of nodes lies in memory. -/
structure IsCh (w : World) (ch : List Nd) : Prop where
  pos : 0 < ch.length
  inj : ∀ i j, i < ch.length → j < ch.length → ndB ch i = ndB ch j → i = j
  nd : ∀ i, i < ch.length → Blk w (ndB ch i) 48 #[.int .i64 (ch.getD i (0, 0, 0)).2.1, .int .i64 (ch.getD i (0, 0, 0)).2.2, .pointer (ndN ch i)]
theorem IsCh.nx {w w' : World} {ch : List Nd} (h : IsCh w ch) (hb : Below w.heap.size w w') : IsCh w' ch := ⟨h.pos, h.inj, fun i hi => (h.nd i hi).nx hb⟩

/-- What a loop's body keeps: all that lay below n₀, and the boxes of sets. -/
def KpN (n₀ : Nat) (A B : World) : Prop := Below n₀ A B ∧ ∀ b cs, Blk A b 26 cs → Blk B b 26 cs
theorem KpN.refl (n₀ : Nat) (A : World) : KpN n₀ A A := ⟨Below.refl _ _, fun _ _ h => h⟩
theorem KpN.t {n₀ : Nat} {A B C : World} (h : KpN n₀ A B) (k : KpN n₀ B C) : KpN n₀ A C := ⟨h.1.trans k.1, fun b cs h3 => k.2 b cs (h.2 b cs h3)⟩
theorem KpN.of_below {n₀ : Nat} {A B : World} (h : Below A.heap.size A B) (hn : n₀ ≤ A.heap.size) : KpN n₀ A B := ⟨h.mono hn, fun _ _ hb => hb.nx h⟩

/-- What comes: each node but the first, with the one ahead of it; by the number of the one ahead. -/
def chP (ch : List Nd) (k : Nat) : List (Fin (ch.length - 1)) := (List.finRange (ch.length - 1)).take k
theorem chP_succ (ch : List Nd) (k : Nat) (h : k < ch.length - 1) : chP ch (k + 1) = chP ch k ++ [⟨k, h⟩] := by
  unfold chP
  rw [List.take_add_one, List.getElem?_eq_getElem (by simpa using h)]
  simp
theorem chP_len (ch : List Nd) (k : Nat) (h : k ≤ ch.length - 1) : (chP ch k).length = k := by simp [chP]; omega

/-- A node's place. -/
def chI (ch : List Nd) : Value → Nat
  | .pointer (some a) => ch.findIdx fun x => x.1 == a.block
  | _ => 0
theorem chI_at {w : World} {ch : List Nd} (h : IsCh w ch) {k : Nat} (hk : k < ch.length) : chI ch (.pointer (some ⟨ndB ch k, 0, none⟩)) = k := by
  have hg : ∀ i (hi : i < ch.length), ndB ch i = (ch[i]).1 := fun i hi => by simp [ndB, List.getD, hi]
  unfold chI
  rw [List.findIdx_eq hk]
  refine ⟨by simp [hg k hk], fun j hj => ?_⟩
  have hjl : j < ch.length := by omega
  cases hb : ((ch[j]).1 == ndB ch k)
  · rfl
  · have := h.inj j k hjl hk (by rw [hg j hjl]; exact eq_of_beq hb)
    omega

set_option maxRecDepth 100000 in
set_option maxHeartbeats 2000000 in
theorem nodes1_in (n : Nat) (hn : 1 ≤ n) (l Bn sb : Nat) (w0 : World) (ch : List Nd) (hS : Blk w0 sb 50 #[.pointer (some ⟨ndB ch 0, 0, none⟩)]) (hC : IsCh w0 ch)
    (J Jx : List (Fin (ch.length - 1)) → World → Prop) (W : World)
    (hY : ∀ pre y W1, J pre W1 → pre.length < ch.length - 1 → YieldAt Fence.wide (n - 1) Try.prog l #[.pointer (some ⟨ndB ch y.val, 0, none⟩), .pointer (some ⟨ndB ch (y.val + 1), 0, none⟩)] W1 fun e W' =>
      (e = .returned (.bool true) ∧ J (pre ++ [y]) W' ∧ KpN w0.heap.size W1 W') ∨ (e = .returned (.bool false) ∧ Jx (pre ++ [y]) W'))
    (hB : Blk W Bn 26 #[.pointer (some ⟨sb, 0, none⟩)]) (hb0 : Below w0.heap.size w0 W) (h0 : J [] W) :
    CallsIn Fence.wide n Try.prog 29 #[.func (.yield l) #[] #[], .pointer (some ⟨Bn, 0, none⟩)] W fun e W' => (∃ v, e = .returned v) ∧
      ((∃ ys, ys = chP ch (ch.length - 1) ∧ J ys W') ∨ (∃ pre, (∃ k, k < ch.length - 1 ∧ pre = chP ch (k + 1)) ∧ Jx pre W')) := by
  have cB := hB.c1
  have cS := (hS.nx hb0).c1
  have HC := Lib.hid (fun X (hX : Below w0.heap.size w0 X) => hC.nx hX)
  have hpos := hC.pos
  have hI := Lib.hid (fun k (hk : k < ch.length) => chI_at hC hk)
  clear hB hC
  refine callsIn_of_wp Try.func29 rfl trivial ?_ rfl
  simp only [Try.ntmps29, List.size_toArray, List.length_cons, List.length_nil, Nat.reduceAdd, Nat.reduceSub, Array.replicate_succ, Array.replicate_zero, List.push_toArray, List.append_toArray, List.nil_append, List.cons_append]
  gi_wp2_with fail
  gi_loopw [3] (fun p wr => ∃ k : Nat, k < ch.length ∧ p = .pointer (some ⟨ndB ch k, 0, none⟩) ∧ J (chP ch k) wr ∧ Below w0.heap.size w0 wr)
    (fun p _ => ch.length - chI ch p)
  case atStart => exact ⟨0, hpos, rfl, by simpa [chP] using h0, hb0⟩
  case round =>
    obtain ⟨k, hk, rfl, hJs, hb1⟩ := hrel
    have hk0 := (HC.out wr hb1).nd k hk
    have hcell := hk0.cell 2
    by_cases hlt : k + 1 < ch.length
    · have hnn : ndN ch k = some ⟨ndB ch (k + 1), 0, none⟩ := by rw [ndN, if_pos hlt]
      rw [hnn] at hcell
      replace hcell : wr.cell? ⟨ndB ch k, 2, none⟩ = some (.pointer (some ⟨ndB ch (k + 1), 0, none⟩)) := hcell
      obtain ⟨fn, tmps, assign, body, hy, hR⟩ := hY _ ⟨k, by omega⟩ wr hJs (by rw [chP_len _ _ (by omega)]; omega)
      dsimp only at hy
      have HK0 := Lib.hid hk0
      have HJ := Lib.hid hJs
      clear hk0 hJs
      gi_wp2_with fail
      refine hR.mono ?_
      rintro e W3 (⟨rfl, hJ3, hk3⟩ | ⟨rfl, hJx3⟩)
      · have hb3 := hb1.trans hk3.1
        have hcell3 : W3.cell? ⟨ndB ch k, 2, none⟩ = some (.pointer (some ⟨ndB ch (k + 1), 0, none⟩)) := by
          have := ((HC.out W3 hb3).nd k hk).cell 2
          rw [hnn] at this
          exact this
        gi_wp2_with fail
        go_roundw
        case rel => exact ⟨k + 1, hlt, rfl, by rw [chP_succ _ _ (by omega)]; exact hJ3, hb3⟩
        case measure => rw [hI.out k hk, hI.out (k + 1) hlt]; omega
      · gi_wp2_with fail
        refine bodyPost_ret (results_none rfl _ _ _) rfl ?_
        exact ⟨⟨_, rfl⟩, .inr ⟨_, ⟨k, by omega, by rw [chP_succ _ _ (by omega)]⟩, hJx3⟩⟩
    · have hnn : ndN ch k = none := by rw [ndN, if_neg hlt]
      rw [hnn] at hcell
      replace hcell : wr.cell? ⟨ndB ch k, 2, none⟩ = some (.pointer none) := hcell
      gi_wp2_with fail
      go_end0
      exact ⟨⟨_, rfl⟩, .inl ⟨_, rfl, by rw [show ch.length - 1 = k by omega]; exact hJs⟩⟩
end Go.Proofs.Ytpkbmdibiefbdaa
