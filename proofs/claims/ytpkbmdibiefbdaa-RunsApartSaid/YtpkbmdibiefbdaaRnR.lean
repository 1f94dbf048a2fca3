/- The document's answer of layers 3 and 4: as far as a step of it goes. -/
import Derived.Test.YtpkbmdibiefbdaaRnO
import Derived.Test.YtpkbmdibiefbdaaRnH
import Derived.Deep.RegionHeld3
import Derived.Deep.OwnRows
import Derived.Laws.MakeOwn
import Derived.Deep.RegionWith
namespace Go.Proofs.Ytpkbmdibiefbdaa
open Go.RowKit
set_option linter.unusedVariables false
set_option linter.unusedSimpArgs false

/-- What a call keeps: all that lay below B, and all blocks but bools. -/
def KpL (B : Nat) (w w' : World) : Prop := Below B w w' ∧ w.heap.size ≤ w'.heap.size ∧ ∀ b t cs, t ≠ 4 → Blk w b t cs → Blk w' b t cs
theorem KpL.refl (B : Nat) (w : World) : KpL B w w := ⟨Below.refl _ _, Nat.le_refl _, fun _ _ _ _ h => h⟩
theorem KpL.t {B : Nat} {a b c : World} (h : KpL B a b) (k : KpL B b c) : KpL B a c := ⟨h.1.trans k.1, Nat.le_trans h.2.1 k.2.1, fun x t cs h1 h3 => k.2.2 x t cs h1 (h.2.2 x t cs h1 h3)⟩
theorem KpL.of_below {B : Nat} {w w' : World} (h : Below w.heap.size w w') (hB : B ≤ w.heap.size) : KpL B w w' := ⟨h.mono hB, h.size, fun _ _ _ _ hb => hb.nx h⟩
theorem KpL.less {B B' : Nat} {w w' : World} (h : KpL B w w') (hB : B' ≤ B) : KpL B' w w' := ⟨h.1.mono hB, h.2.1, h.2.2⟩
theorem KpL.drewN (B : Nat) (w : World) (k : Nat) : KpL B w (w.drewN k) := ⟨bdrewN (Below.refl B w) k, Nat.le_refl _, fun _ _ _ _ h => h⟩
theorem KpL.set {B sb bs : Nat} {w w' : World} {rs : List Rn} (h : KpL bs w w') (hs : IsSet w B sb rs) : IsSet w' B sb rs := by
  obtain ⟨ch, h1, h2⟩ := hs
  exact ⟨ch, ⟨h.2.2 _ _ _ (by decide) h1.s, ⟨h1.c.pos, h1.c.inj, fun i hi => h.2.2 _ _ _ (by decide) (h1.c.nd i hi)⟩⟩, h2⟩
/-- What a step keeps: all that lay below B, and all blocks but nodes and bools. -/
def KpX (B : Nat) (w w' : World) : Prop := Below B w w' ∧ w.heap.size ≤ w'.heap.size ∧ ∀ b t cs, t ≠ 48 → t ≠ 4 → Blk w b t cs → Blk w' b t cs
theorem KpX.refl (B : Nat) (w : World) : KpX B w w := ⟨Below.refl _ _, Nat.le_refl _, fun _ _ _ _ _ h => h⟩
theorem KpX.t {B : Nat} {a b c : World} (h : KpX B a b) (k : KpX B b c) : KpX B a c := ⟨h.1.trans k.1, Nat.le_trans h.2.1 k.2.1, fun x t cs h1 h2 h3 => k.2.2 x t cs h1 h2 (h.2.2 x t cs h1 h2 h3)⟩
theorem KpR.x {B : Nat} {w w' : World} (h : KpR B w w') : KpX B w w' := ⟨h.1, h.2.1, fun b t cs h1 _ h2 => h.2.2 b t cs h1 h2⟩
theorem KpL.x {B : Nat} {w w' : World} (h : KpL B w w') : KpX B w w' := ⟨h.1, h.2.1, fun b t cs _ h1 h2 => h.2.2 b t cs h1 h2⟩

theorem infoBool : (Try.prog.info? 4).map (fun i => (i.zero, i.size, i.bytes)) = some (some (.bool false), 1, 1) := by kernel_rfl

/-- The document's bits in memory. -/
structure IsBi (w : World) (n bb gb : Nat) (cs : List Bool) : Prop where
  b : Blk w bb 66 #[.slice (some ⟨gb, 0, none⟩) n n]
  g : Blk w gb 4 (cs.map Value.bool).toArray
  l : cs.length = n
theorem IsBi.nx {w w' : World} {n bb gb : Nat} {cs : List Bool} (h : IsBi w n bb gb cs) (hb : Below w.heap.size w w') : IsBi w' n bb gb cs := ⟨h.b.nx hb, h.g.nx hb, h.l⟩
theorem IsBi.drewN {w : World} {n bb gb : Nat} {cs : List Bool} (h : IsBi w n bb gb cs) (k : Nat) : IsBi (w.drewN k) n bb gb cs := ⟨h.b.drewN k, h.g.drewN k, h.l⟩
theorem IsBi.cell {w : World} {n bb gb : Nat} {cs : List Bool} (h : IsBi w n bb gb cs) {j : Nat} (hj : j < n) : w.cell? ⟨gb, j, none⟩ = some (.bool (cs.getD j false)) := by
  have hl : j < cs.length := by rw [h.l]; exact hj
  rw [h.g.cell j]
  simp [List.getD, hl]

theorem made_bool (n : Nat) : madeCells #[.bool false] n = ((List.replicate n false).map Value.bool).toArray := by
  apply Array.ext
  · simp [madeCells]
  · intro i h1 h2
    simp [madeCells, Nat.mod_one]

theorem rnew3_any (w : World) (n : Nat) (h1 : n ≤ 65536) : Calls Try.prog 21 #[.int .i64 (n : Int)] w fun e w' => ∃ bb gb, e = .returned (.pointer (some ⟨bb, 0, none⟩)) ∧ IsBi w' n bb gb (List.replicate n false) ∧ w.heap.size ≤ gb ∧ Below w.heap.size w w' := by
  have hmk := fun W => run_make_row' (P := Try.prog) 64 4 (.bool false) 1 Try.underlying64 infoBool rfl .i64 .i64 n (by omega) (by omega) W
  go_enter Try.func21, Try.ntmps21
  go_wp2
  go_ret
  refine ⟨w.heap.size + 1, w.heap.size, rfl, ⟨?_, ?_, by simp⟩, Nat.le_refl _, balloc (balloc (Below.refl _ w) _) _⟩
  · exact Blk.new_at (w.alloc (.cells (madeCells #[.bool false] n) 4)) (w.heap.size + 1) 66 _ (by simp)
  · rw [← made_bool]
    exact (Blk.new w 4 _).alloc _

section
variable (w : World) (n bb gb : Nat) (cs : List Bool) (h : IsBi w n bb gb cs) (hn : n ≤ 1000000) (i c : Nat) (hi : i ≤ n) (hc : c ≤ n - i)
include h hn hi hc

theorem in_any : Calls Try.prog 30 #[.pointer (some ⟨bb, 0, none⟩), .int .i64 (i : Int), .int .i64 (c : Int)] w fun e w' => e = .returned (.bool true) ∧ w = w' := by
  have cb := h.b.c1
  have e1 : wrap64 ((n : Int) - i) = (n : Int) - i := by simp [wrap64]; omega
  have e2 : IntKind.i64.wrap ((n : Int) - i) = (n : Int) - i := by simp [IntKind.wrap, IntKind.signed, IntKind.bits]; omega
  have q1 : decide ((0 : Int) ≤ (i : Int)) = true := by simp
  have q2 : decide ((0 : Int) ≤ (c : Int)) = true := by simp
  have q3 : decide ((i : Int) ≤ (n : Int)) = true := by simp; omega
  have q4 : decide ((c : Int) ≤ (n : Int) - i) = true := by simp; omega
  clear h
  go_enter Try.func30, Try.ntmps30
  go_wp2_with fail
  go_ret
  exact ⟨by first | rfl | simp [q4], rfl⟩

/-- How many of the first q are set. -/
def cntQ (cs : List Bool) (i : Nat) : Nat → Nat
  | 0 => 0
  | q + 1 => cntQ cs i q + (if cs.getD (i + q) false then 1 else 0)
omit h hn hi hc in
theorem cntQ_le (cs : List Bool) (i : Nat) : ∀ q, cntQ cs i q ≤ q
  | 0 => Nat.le_refl _
  | q + 1 => by
    have := cntQ_le cs i q
    unfold cntQ
    split <;> omega

set_option maxHeartbeats 1000000 in
theorem count_any : Calls Try.prog 27 #[.pointer (some ⟨bb, 0, none⟩), .int .i64 (i : Int), .int .i64 (c : Int)] w fun e w' => e = .returned (.tuple #[.int .i64 (cntQ cs i c : Int), .int .i64 0]) ∧ w' = w := by
  have HI := Lib.hid (in_any w n bb gb cs h hn i c hi hc)
  have H := Lib.hid h
  have cb := h.b.c1
  have e1 : wrap64 ((i : Int) + c) = ((i + c : Nat) : Int) := by simp [wrap64]; omega
  have e2 : IntKind.i64.wrap ((i : Int) + c) = ((i + c : Nat) : Int) := by simp [IntKind.wrap, IntKind.signed, IntKind.bits]; omega
  clear h
  go_enter Try.func27, Try.ntmps27
  go_wp2_with fail
  refine HI.out.mono ?_
  rintro e w' ⟨rfl, rfl⟩
  go_wp2_with fail
  go_loop [8, 9] (fun k j => ∃ q : Nat, q ≤ c ∧ k = .int .i64 (cntQ cs i q : Int) ∧ j = .int .i64 ((i + q : Nat) : Int)) (fun _ j => i + c - (intOf j).toNat)
  case atStart => exact ⟨0, Nat.zero_le _, rfl, by simp⟩
  case round =>
    obtain ⟨q, hq, rfl, rfl⟩ := hrel
    by_cases hlt : q < c
    · have hcell := H.out.cell (j := i + q) (by omega)
      have hl1 : ((i + q : Nat) : Int) < ((i + c : Nat) : Int) := by omega
      have hl2 : ((i + q : Nat) : Int) < (n : Int) := by omega
      have HQ := Lib.hid (show cntQ cs i (q + 1) = cntQ cs i q + (if cs.getD (i + q) false then 1 else 0) from rfl)
      have hle := cntQ_le cs i q
      generalize cs.getD (i + q) false = x at *
      have HLT := Lib.hid hlt
      generalize hp : i + q = p at *
      have HP := Lib.hid hp
      clear hp
      generalize cntQ cs i q = kk at *
      cases x
      · go_wp2_with fail
        go_roundw
        case rel => exact ⟨q + 1, HLT.out, by rw [HQ.out]; simp, by have := HP.out; rw [show i + (q + 1) = p + 1 by omega]; go_num⟩
        case measure => have := HP.out; simp [intOf]; omega
      · go_wp2_with fail
        go_roundw
        case rel => exact ⟨q + 1, HLT.out, by rw [HQ.out]; go_num, by have := HP.out; rw [show i + (q + 1) = p + 1 by omega]; go_num⟩
        case measure => have := HP.out; simp [intOf]; omega
    · obtain rfl : q = c := by omega
      go_wp2_with fail
      go_ret2
      exact ⟨rfl, rfl⟩

set_option maxHeartbeats 1000000 in
theorem lay_any (v : Bool) : Calls Try.prog 28 #[.pointer (some ⟨bb, 0, none⟩), .int .i64 (i : Int), .int .i64 (c : Int), .bool v] w fun e w' => e = .returned (.int .i64 0) ∧ KpL gb w w' := by
  have HI := Lib.hid (in_any w n bb gb cs h hn i c hi hc)
  have H := Lib.hid h
  have e1 : wrap64 ((i : Int) + c) = ((i + c : Nat) : Int) := by simp [wrap64]; omega
  have e2 : IntKind.i64.wrap ((i : Int) + c) = ((i + c : Nat) : Int) := by simp [IntKind.wrap, IntKind.signed, IntKind.bits]; omega
  clear h
  go_enter Try.func28, Try.ntmps28
  go_wp2_with fail
  refine HI.out.mono ?_
  rintro e w' ⟨rfl, rfl⟩
  go_wp2_with fail
  go_loopw [9] (fun j wr => ∃ (q : Nat) (ds : List Bool), q ≤ c ∧ j = .int .i64 ((i + q : Nat) : Int) ∧ IsBi wr n bb gb ds ∧ KpL gb w wr) (fun j _ => i + c - (intOf j).toNat)
  case atStart => exact ⟨0, cs, Nat.zero_le _, by simp, H.out, KpL.refl _ _⟩
  case round =>
    obtain ⟨q, ds, hq, rfl, hD, hK⟩ := hrel
    by_cases hlt : q < c
    · have hcell := hD.cell (j := i + q) (by omega)
      have hfr := hD.g.frozen (i + q)
      have cb := hD.b.c1
      have hl1 : ((i + q : Nat) : Int) < ((i + c : Nat) : Int) := by omega
      have hl2 : ((i + q : Nat) : Int) < (n : Int) := by omega
      have DD := Lib.hid hD
      have KK := Lib.hid hK
      clear hD hK
      generalize ds.getD (i + q) false = x at *
      have HLT := Lib.hid hlt
      generalize hp : i + q = p at *
      have HP := Lib.hid hp
      clear hp
      go_wp2_with fail
      go_roundw
      case rel =>
        have hbg : bb ≠ gb := DD.out.b.ne_ DD.out.g (by decide)
        refine ⟨q + 1, ds.set p v, HLT.out, by have := HP.out; rw [show i + (q + 1) = p + 1 by omega]; go_num, ⟨DD.out.b.far (p := ⟨gb, p, none⟩) hbg _, ?_, by rw [List.length_set]; exact DD.out.l⟩, KK.out.t ⟨(Below.refl gb _).setCell (p := ⟨gb, p, none⟩) (Nat.le_refl _) _, by simp [World.setCell], fun b t cs' ht h => h.far (p := ⟨gb, p, none⟩) ?_ _⟩⟩
        · have := DD.out.g.set_ p (.bool v)
          simpa [List.map_set] using this
        · rintro rfl
          exact Blk.ne_ h DD.out.g ht rfl
      case measure => have := HP.out; simp [intOf]; omega
    · obtain rfl : q = c := by omega
      have KK := Lib.hid hK
      clear hD hK
      go_wp2_with fail
      go_ret
      exact ⟨rfl, KK.out⟩
end
end Go.Proofs.Ytpkbmdibiefbdaa
