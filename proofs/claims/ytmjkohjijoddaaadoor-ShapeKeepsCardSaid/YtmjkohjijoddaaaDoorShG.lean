/- Shapes: the iterator over a view's references. -/
import Derived.Test.YtmjkohjijoddaaaDoorShF
import Derived.RangeFuncBox
import Derived.RangeFuncCalls
import Derived.RangeFuncLeaves
import Derived.Shelf.Abstract
import Derived.WalkKit
import Derived.OwnWalkIn
import Derived.TacticsInMore
import Derived.LoopNIn
import Derived.LoopIn
import Derived.Maps.AppendAt
import Derived.RegionIn
import Derived.Shelf.RegionOpen
namespace Go.Proofs.YtmjkohjijoddaaaDoor
open Go.RowKit Go.Shelf
set_option linter.unusedVariables false
set_option linter.unusedSimpArgs false

attribute [local go_sem] Oper.semAt_some

/-- What a loop's body keeps: all that lay below n₀, and all blocks of cells but results and words. -/
def KpV (n₀ : Nat) (A B : World) : Prop := Below n₀ A B ∧ ∀ b t cs, t ≠ 34 → t ≠ 24 → Blk A b t cs → Blk B b t cs
theorem KpV.refl (n₀ : Nat) (A : World) : KpV n₀ A A := ⟨Below.refl _ _, fun _ _ _ _ _ h => h⟩
theorem KpV.t {n₀ : Nat} {A B C : World} (h : KpV n₀ A B) (k : KpV n₀ B C) : KpV n₀ A C := ⟨h.1.trans k.1, fun b t cs h1 h2 h3 => k.2 b t cs h1 h2 (h.2 b t cs h1 h2 h3)⟩
theorem KpV.of_below {n₀ : Nat} {A B : World} (h : Below A.heap.size A B) (hn : n₀ ≤ A.heap.size) : KpV n₀ A B := ⟨h.mono hn, fun _ _ _ _ _ hb => hb.nx h⟩

def slE (x : Ty) (ln slot : Int) : Int := if slIn x ln slot then 0 else 2

/-- What comes of a view: its references' slots, and their words. -/
def refP (x : Ty) (ln : Int) (ws : List Int) (g : Int) : List (Int × Int) := (refsR x.1 x.2.1 x.2.2 ln).map fun s => (s, slV x ln ws g s)

set_option maxRecDepth 100000 in
set_option maxHeartbeats 4000000 in
theorem refs1_in (n : Nat) (hn : 1 ≤ n) (l Bn vb bs br : Nat) (w0 : World) (g tg ty ln sz : Int) (x : Ty) (ws : List Int) (rs : List Value) (c : Nat) (h : IsVw w0 vb bs g tg ty ln sz x) (hx : OkW x) (ha : IsAr w0 bs br ws rs c) (g0 : 0 ≤ g) (g1 : g ≤ 65536) (hN : vwN x ln ≤ 65536) (hfit : 2 * g + 1 + vwN x ln ≤ ws.length)
    (J Jx : List (Int × Int) → World → Prop) (W : World) (hJ : AbidesFrom W.heap.size J)
    (hY : ∀ pre y W1, J pre W1 → pre.length < (refP x ln ws g).length → YieldAt Fence.wide (n - 1) Tryd.prog l #[.int .i64 y.1, .int .u64 y.2] W1 fun e W' =>
      (e = .returned (.bool true) ∧ J (pre ++ [y]) W' ∧ KpV w0.heap.size W1 W') ∨ (e = .returned (.bool false) ∧ Jx (pre ++ [y]) W'))
    (hB : Blk W Bn 46 #[.pointer (some ⟨vb, 0, none⟩)]) (hb0 : Below w0.heap.size w0 W) (h0 : J [] W) :
    CallsIn Fence.wide n Tryd.prog 71 #[.func (.yield l) #[] #[], .pointer (some ⟨Bn, 0, none⟩)] W fun e W' => (∃ v, e = .returned v) ∧
      ((∃ ys, ys = refP x ln ws g ∧ J ys W') ∨ (∃ pre, pre <+: refP x ln ws g ∧ Jx pre W')) := by
  have HKR := Lib.hid (fun X => krefs_bk x.1 x.2.1 x.2.2 ln X ⟨hx.k0, hx.k1⟩ ⟨hx.w0, hx.w1⟩ hx.m1)
  have HLD := Lib.hid (fun X (hX : Below w0.heap.size w0 X) slot => show Calls Tryd.prog 41 #[.pointer (some ⟨vb, 0, none⟩), .int .i64 slot] X (fun e w' => e = .returned (.tuple #[.int .u64 (slV x ln ws g slot), .int .i64 (slE x ln slot)]) ∧ Below X.heap.size X w') from vLoad_any X vb bs g tg ty ln sz x (h.nx hX) hx br ws rs c (ha.nx hX) g0 g1 hN hfit slot)
  have hv := (h.nx hb0)
  have HV := Lib.hid (fun X (hX : Below w0.heap.size w0 X) => h.nx hX)
  obtain ⟨c0, c1, c2, c3, c4, c5, c6, c7, c8⟩ := hv.c9
  have cB := hB.c1
  have HB := Lib.hid hB
  have H0 := Lib.hid hb0
  have HJ := Lib.hid hJ
  have hP : (refP x ln ws g).length = (refsR x.1 x.2.1 x.2.2 ln).length := by simp [refP]
  have hPg : ∀ j, j < (refsR x.1 x.2.1 x.2.2 ln).length → (refP x ln ws g)[j]? = some ((refsR x.1 x.2.1 x.2.2 ln).getD j 0, slV x ln ws g ((refsR x.1 x.2.1 x.2.2 ln).getD j 0)) := fun j hj => by simp [refP, List.getD, hj]
  have hle := refsR_le x.1 x.2.1 x.2.2 ln
  generalize refP x ln ws g = PS at *
  generalize refsR x.1 x.2.1 x.2.2 ln = RS at *
  generalize ofE x.1 x.2.1 x.2.2 ln = E at *
  obtain ⟨xk, xw, xm⟩ := x
  dsimp only at c6 c7 c8 HKR
  refine callsIn_of_wp Tryd.func71 rfl trivial ?_ rfl
  simp only [Tryd.ntmps71, List.size_toArray, List.length_cons, List.length_nil, Nat.reduceAdd, Nat.reduceSub, Array.replicate_succ, Array.replicate_zero, List.push_toArray, List.append_toArray, List.nil_append, List.cons_append]
  gi_wp2_with fail
  have hmx : Tryd.prog.follows .mixedOrders = true := by kernel_rfl
  gi_region_with_o (refine ⟨trivial, ?_⟩; gi_at_call 72; refine (callsIn_wide.2 (HKR.out _)).mono ?_; rintro e wa ⟨A, m, cc, rfl, hl, hr, hb⟩)
  all_goals
    have BA : Below W.heap.size W wa := ((Below.refl W.heap.size W).drew).trans (hb.mono (by simp))
    have JA : J [] wa := HJ.out [] W wa none h0 (only_of_below BA none) (fun r e => by cases e)
    have BB := Lib.hid (HB.out.nx BA)
    have B0 := Lib.hid (H0.out.trans (BA.mono H0.out.size))
    clear c0 c1 c2 c3 c4 c5 c6 c7 c8 cB h0 hb
    gi_wp2_with fail
    gi_loopw [26] (fun i wr => ∃ k : Nat, k ≤ m ∧ i = .int .i64 (k : Int) ∧ J (PS.take k) wr ∧ Below w0.heap.size w0 wr ∧ Blk wr Bn 46 #[.pointer (some ⟨vb, 0, none⟩)] ∧ (0 < m → ∃ g cs, A = some ⟨g, 0, none⟩ ∧ Blk wr g 3 cs ∧ ∀ j, j < m → cs[j]? = some (.int .i64 (RS.getD j 0))) ∧ W.heap.size ≤ wr.heap.size)
      (fun i _ => m - (intOf i).toNat)
    case atStart => exact ⟨0, Nat.zero_le _, rfl, by simpa using JA, B0.out, BB.out, hr, BA.size⟩
    case round =>
      obtain ⟨k, hk, rfl, hJs, hb1, hb2, hrr, hsz⟩ := hrel
      by_cases hlt : k < m
      · obtain ⟨gb, cs, rfl, hbk, hcs⟩ := hrr (by omega)
        have hc : wr.cell? ⟨gb, k, none⟩ = some (.int .i64 (RS.getD k 0)) := (hbk.cell k).trans (hcs k hlt)
        have hcB := hb2.c1
        have hpk := Lib.hid (hPg k (by omega))
        have R2 := Lib.hid hb2
        have R3 := Lib.hid hbk
        have R4 := Lib.hid hcs
        have R5 := Lib.hid hJs
        clear hb2 hbk hcs hrr hJs hr
        generalize RS.getD k 0 = s at *
        gi_wp2_with (refine ⟨trivial, ?_⟩; gi_at_call 41; refine (callsIn_wide.2 (HLD.out _ hb1 s)).mono ?_; rintro e wl ⟨rfl, hbl⟩; obtain ⟨fn, tmps, assign, body, hy, hR⟩ := hY _ (s, slV (xk, xw, xm) ln ws g s) wl (HJ.out _ wr wl none R5.out (only_of_below hbl none) (fun r e => by cases e)) (by simp; omega); dsimp only at hy)
        generalize slV (xk, xw, xm) ln ws g s = y at *
        refine hR.mono ?_
        have hb3 := hb1.trans (hbl.mono hb1.size)
        rintro e W3 (⟨rfl, hJ3, hk3⟩ | ⟨rfl, hJx3⟩)
        · gi_wp2_with fail
          go_roundw
          case rel =>
            refine ⟨k + 1, by omega, by go_num, ?_, hb3.trans hk3.1, hk3.2 _ _ _ (by decide) (by decide) (R2.out.nx hbl), fun _ => ⟨gb, cs, rfl, hk3.2 _ _ _ (by decide) (by decide) (R3.out.nx hbl), R4.out⟩, Nat.le_trans hsz (Nat.le_trans hbl.size hk3.1.size)⟩
            rw [List.take_add_one, hpk.out]
            exact hJ3
          case measure => simp [intOf]; omega
        · gi_wp2_with fail
          refine bodyPost_ret (results_none rfl _ _ _) rfl ?_
          exact ⟨⟨_, rfl⟩, .inr ⟨PS.take k ++ [(s, y)], by rw [show PS.take k ++ [(s, y)] = PS.take (k + 1) by rw [List.take_add_one, hpk.out]; rfl]; exact List.take_prefix _ _, hJx3⟩⟩
      · obtain rfl : k = m := by omega
        gi_wp2_with fail
        go_end0
        exact ⟨⟨_, rfl⟩, .inl ⟨_, by rw [List.take_of_length_le (by omega)], hJs⟩⟩
end Go.Proofs.YtmjkohjijoddaaaDoor
