/- Tables in memory: put. -/
import Derived.Test.YtmjkohjijoddaaaDoorKindF
import Derived.Test.YtmjkohjijoddaaaDoorArenaA
import Derived.Deep.RegionLaw
import Derived.Maps.AppendAt
import Derived.OneCell
namespace Go.Proofs.YtmjkohjijoddaaaDoor
open Go.RowKit
set_option linter.unusedVariables false
set_option linter.unusedSimpArgs false

/-- A type: kind, words, mask. -/
abbrev Ty := Int × Int × Nat

def tyC (t : Ty) : List Value := [.int .u8 t.1, .int .i64 t.2.1, .int .u64 (t.2.2 : Int)]
theorem tyC_len (ts : List Ty) : (ts.flatMap tyC).length = ts.length * 3 := by
  induction ts with
  | nil => rfl
  | cons t ts ih => simp [List.flatMap_cons, ih, tyC]; omega

theorem Tryd.infoTy : (Tryd.prog.info? 72).map (fun i => (i.zero, i.size, i.bytes)) = some (some (.agg #[.int .u8 0, .int .i64 0, .int .u64 0]), 3, 24) := by kernel_rfl

/-- A table: its struct in block tb, its types in block g (g = tb: none yet). -/
structure IsTb (w : World) (B tb g : Nat) (v : Value) (ts : List Ty) : Prop where
  s : Blk w tb 87 #[v]
  r : w.ownsRow B 72 3 v ts.length (ts.flatMap tyC)
  ob : v.ownBlock.getD tb = g
  ne : v.ownBlock ≠ some tb
  lo : B ≤ tb
  hi : ts.length ≤ 64

/-- What put gives. -/
def GivesPut (w : World) (B tb g : Nat) (ts : List Ty) (x : Ty) (e : Ending) (w' : World) : Prop :=
  e = .returned (.int .i64 ((ts.length : Int) + 1)) ∧ ∃ g' v', IsTb w' B tb g' v' (ts ++ [x]) ∧ (g' = g ∨ w.heap.size ≤ g') ∧ Touch tb g w w'

theorem put_post {w X w' : World} {B tb g : Nat} {v v' : Value} {ts : List Ty} {x : Ty} (hI : IsTb w B tb g v ts) (hl : ts.length < 64) (hX : Below w.heap.size w X) (hgr : X.grownBy w' v.ownBlock)
    (hown : w'.ownsRow B 72 3 v' (ts.length + 1) (ts.flatMap tyC ++ tyC x)) (hob : v'.ownBlock = v.ownBlock ∨ v'.ownBlock = some X.heap.size) (hS : Blk w' tb 87 #[v]) :
    ∃ g' u, IsTb (w'.setCell ⟨tb, 0, none⟩ v') B tb g' u (ts ++ [x]) ∧ (g' = g ∨ w.heap.size ≤ g') ∧ Touch tb g w (w'.setCell ⟨tb, 0, none⟩ v') := by
  have htb := hI.s.lt
  have hne : v'.ownBlock ≠ some tb := by
    rcases hob with h | h
    · rw [h]; exact hI.ne
    · rw [h]; intro e; have := Option.some.inj e; have := hX.size; omega
  refine ⟨v'.ownBlock.getD tb, v', ⟨?_, ?_, rfl, hne, hI.lo, by simp; omega⟩, ?_, ?_⟩
  · simpa using hS.set_ 0 v'
  · have := ownsRow_setCell_other (a := ⟨tb, 0, none⟩) hown hne v'
    simpa [List.flatMap_append, List.length_append] using this
  · rcases hob with h | h
    · left; rw [h]; exact hI.ob
    · right; rw [h]; exact hX.size
  · refine Touch.setCell (bs := tb) (br := g) (p := ⟨tb, 0, none⟩) ⟨hgr.os.trans hX.os, hgr.tape.trans hX.tape, hgr.output.trans hX.output, Nat.le_trans hX.size hgr.size, fun i h1 h2 h3 => (hgr.block i (Nat.lt_of_lt_of_le h1 hX.size) ?_).trans (hX.block i h1)⟩ (.inl rfl) _
    intro e
    apply h3
    rw [← hI.ob, ← e]
    rfl

theorem ty_new (w : World) (g : Nat) (k wd : Int) (mk : Nat) (hg : g = w.heap.size) {B : Nat} (hB : g < B) : Reads (w.alloc (.cells #[.int .u8 k, .int .i64 wd, .int .u64 (mk : Int)] 72)) B 3 (some ⟨g, 0, none⟩) 1 (tyC (k, wd, mk)) :=
  ⟨rfl, fun _ => ⟨_, rfl, hB, fun j u hu => by
    have hb := Blk.new_at w g 72 #[.int .u8 k, .int .i64 wd, .int .u64 (mk : Int)] hg
    match j, hu with
    | 0, hu => cases hu; exact hb.cell 0
    | 1, hu => cases hu; exact hb.cell 1
    | 2, hu => cases hu; exact hb.cell 2⟩⟩
theorem tyC_one (k wd : Int) (mk : Nat) : ∀ u ∈ tyC (k, wd, mk), u.oneCell' = true := by
  intro u hu
  simp [tyC] at hu
  rcases hu with rfl | rfl | rfl <;> rfl

set_option maxHeartbeats 2000000 in
theorem put_any (w : World) (B tb g : Nat) (v : Value) (ts : List Ty) (h : IsTb w B tb g v ts) (hB : B ≤ w.heap.size) (hl : ts.length < 64) (k wd : Int) (mk : Nat) :
    Calls Tryd.prog 68 #[.pointer (some ⟨tb, 0, none⟩), .agg #[.int .u8 k, .int .i64 wd, .int .u64 (mk : Int)]] w (GivesPut w B tb g ts (k, wd, mk)) := by
  obtain ⟨A, c, rfl, hnc⟩ := own_form h.r
  have c0 := h.s.c1
  have htb := h.s.lt
  have hf := h.s.frozen 0
  have HR := Lib.hid h.r
  have HI := Lib.hid h
  clear h
  obtain ⟨i0, hi, hz0, hz1, hz2⟩ := info_parts Tryd.infoTy
  have HII := Lib.hid hi
  have Z0 := Lib.hid hz0
  have Z1 := Lib.hid hz1
  have Z2 := Lib.hid hz2
  clear hi hz0 hz1 hz2
  go_enter Tryd.func68, Tryd.ntmps68
  go_wp2_with fail
  go_region_law (refine step_append_any _ rfl (.tmp 9) (.tmp 11) 35 rfl B 72 i0 (.agg #[.int .u8 0, .int .i64 0, .int .u64 0]) 3 24 Tryd.underlying35 HII.out Z0.out Z1.out Z2.out rfl (by decide) (.slice A ts.length c) ts.length (ts.flatMap tyC) rfl (by exact (HR.out.alloc _).alloc _) (w.heap.size + 2) (some ⟨w.heap.size + 1, 0, none⟩) 1 1 (tyC (k, wd, mk)) rfl (by exact ty_new (w.alloc _) _ k wd mk (by simp) (by omega)) (by exact tyC_one k wd mk) (by unfold maxLen; omega) (by omega) (by simp; omega) ?_; intro v' w' hown hgr hob; obtain ⟨A', c', rfl, hc'⟩ := own_form hown; have hS : Blk w' tb 87 #[.slice A ts.length c] := Blk.grown (by exact (HI.out.s.alloc _).alloc _) hgr (fun e => HI.out.ne e.symm); have d0 := hS.c1; have f0 := hS.frozen 0)
  all_goals go_wp2
  all_goals go_ret
  all_goals exact ⟨rfl, put_post HI.out hl (by exact ((balloc (balloc (Below.refl _ w) _) _).drew)) hgr hown hob hS⟩
end Go.Proofs.YtmjkohjijoddaaaDoor
