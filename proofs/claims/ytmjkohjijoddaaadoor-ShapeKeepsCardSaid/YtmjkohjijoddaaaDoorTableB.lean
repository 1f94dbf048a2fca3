/- Tables: Add. -/
import Derived.Test.YtmjkohjijoddaaaDoorTableA
import Derived.Deep.RegionHeld3
namespace Go.Proofs.YtmjkohjijoddaaaDoor
open Go.RowKit
set_option linter.unusedVariables false
set_option linter.unusedSimpArgs false

def addE (ts : List Ty) (x : Ty) : Int := if okT x.1 x.2.1 x.2.2 = false then 2 else if 64 ≤ ts.length then 4 else 0
def addL (ts : List Ty) (x : Ty) : List Ty := if addE ts x = 0 then ts ++ [x] else ts
def addN (ts : List Ty) (x : Ty) : Int := if addE ts x = 0 then (ts.length : Int) + 1 else 0

/-- What Add gives. -/
def GivesAdd (w : World) (B tb g : Nat) (ts : List Ty) (x : Ty) (e : Ending) (w' : World) : Prop :=
  e = .returned (.tuple #[.int .i64 (addN ts x), .int .i64 (addE ts x)]) ∧ ∃ g' v', IsTb w' B tb g' v' (addL ts x) ∧ (g' = g ∨ w.heap.size ≤ g') ∧ Touch tb g w w'

theorem IsTb.nx {w w' : World} {B tb g : Nat} {v : Value} {ts : List Ty} (h : IsTb w B tb g v ts) (hb : Below w.heap.size w w') : IsTb w' B tb g v ts :=
  ⟨h.s.nx hb, own_nx h.r hb, h.ob, h.ne, h.lo, h.hi⟩

theorem IsTb.drew {w : World} {B tb g : Nat} {v : Value} {ts : List Ty} (h : IsTb w B tb g v ts) : IsTb w.drew B tb g v ts := ⟨h.s.drew, h.r.drew, h.ob, h.ne, h.lo, h.hi⟩
theorem IsTb.glt {w : World} {B tb g : Nat} {v : Value} {ts : List Ty} (h : IsTb w B tb g v ts) : g < w.heap.size := by
  have h1 := h.ob
  have h2 := h.r.lt
  have h3 := h.s.lt
  cases ho : v.ownBlock with
  | none => rw [ho] at h1; simp at h1; omega
  | some k => rw [ho] at h1; simp at h1; have := h2 k ho; omega
theorem Touch.undrew {w w' : World} {bs br : Nat} (h : Touch bs br w.drew w') : Touch bs br w w' := ⟨h.os, h.tape, h.output, h.size, h.block⟩

set_option maxHeartbeats 2000000 in
theorem add_any (w : World) (B tb g : Nat) (v : Value) (ts : List Ty) (h : IsTb w B tb g v ts) (hB : B ≤ w.heap.size) (k wd : Int) (mk : Nat) (hk : 0 ≤ k ∧ k < 256) (hw : -9223372036854775808 ≤ wd ∧ wd ≤ 9223372036854775807) (hm : mk < 18446744073709551616) :
    Calls Tryd.prog 50 #[.pointer (some ⟨tb, 0, none⟩), .agg #[.int .u8 k, .int .i64 wd, .int .u64 (mk : Int)]] w (GivesAdd w B tb g ts (k, wd, mk)) := by
  have HC := Lib.hid (check_any k wd mk (w.alloc (.cells #[.int .u8 k, .int .i64 wd, .int .u64 (mk : Int)] 72)) hk hw hm)
  have b0 := Blk.new w 72 #[.int .u8 k, .int .i64 wd, .int .u64 (mk : Int)]
  have HI := Lib.hid h
  clear h hk hw hm
  cases ho : okT k wd mk
  · have HK := Lib.hid (chk_no ho)
    have HE := Lib.hid (show addE ts (k, wd, mk) = 2 by simp [addE, ho])
    have HL := Lib.hid (show addL ts (k, wd, mk) = ts by simp [addL, HE.out])
    have HN := Lib.hid (show addN ts (k, wd, mk) = 0 by simp [addN, HE.out])
    clear ho
    go_enter Tryd.func50, Tryd.ntmps50
    go_wp2_with fail
    refine HC.out.mono ?_
    rintro e w1 ⟨rfl, hb⟩
    rw [HK.out]
    have hB1 := Lib.hid (bnext (balloc (Below.refl _ w) _) hb)
    clear hb
    go_wp2_with fail
    go_ret2
    refine ⟨by rw [HE.out, HN.out]; rfl, g, v, by rw [HL.out]; exact HI.out.nx hB1.out, .inl rfl, Touch.of_below hB1.out⟩
  · have HK := Lib.hid (chk_yes ho)
    by_cases hf : 64 ≤ ts.length
    · have HE := Lib.hid (show addE ts (k, wd, mk) = 4 by simp [addE, ho, hf])
      have HL := Lib.hid (show addL ts (k, wd, mk) = ts by simp [addL, HE.out])
      have HN := Lib.hid (show addN ts (k, wd, mk) = 0 by simp [addN, HE.out])
      have hle := HI.out.hi
      clear ho
      go_enter Tryd.func50, Tryd.ntmps50
      go_wp2_with fail
      refine HC.out.mono ?_
      rintro e w1 ⟨rfl, hb⟩
      rw [HK.out]
      have hB1 := Lib.hid (bnext (balloc (Below.refl _ w) _) hb)
      have I1 := Lib.hid (HI.out.nx hB1.out)
      obtain ⟨A, c, hv, hnc⟩ := own_form I1.out.r
      have c0 := I1.out.s.c1
      rw [hv] at c0
      clear hb hv
      go_wp2_with fail
      go_ret2
      refine ⟨by rw [HE.out, HN.out]; rfl, g, v, by rw [HL.out]; exact I1.out, .inl rfl, Touch.of_below hB1.out⟩
    · have HE := Lib.hid (show addE ts (k, wd, mk) = 0 by simp [addE, ho, hf])
      have HL := Lib.hid (show addL ts (k, wd, mk) = ts ++ [(k, wd, mk)] by simp [addL, HE.out])
      have HN := Lib.hid (show addN ts (k, wd, mk) = (ts.length : Int) + 1 by simp [addN, HE.out])
      clear ho
      go_enter Tryd.func50, Tryd.ntmps50
      go_wp2_with fail
      refine HC.out.mono ?_
      rintro e w1 ⟨rfl, hb⟩
      rw [HK.out]
      have hB1 := Lib.hid (bnext (balloc (Below.refl _ w) _) hb)
      have I1 := Lib.hid (HI.out.nx hB1.out)
      have b1 := b0.nx hb
      obtain ⟨A, c, hv, hnc⟩ := own_form I1.out.r
      have c0 := I1.out.s.c1
      rw [hv] at c0
      obtain ⟨e0, e1, e2⟩ := b1.c3
      have hsz := hB1.out.size
      have hgl := HI.out.glt
      have htl := HI.out.s.lt
      clear hb hv
      go_wp2_with fail
      go_region_held3 (fun w' => w'.cell? ⟨w.heap.size, 0, none⟩ = some (.int .u8 k) ∧ w'.cell? ⟨w.heap.size, 1, none⟩ = some (.int .i64 wd) ∧ w'.cell? ⟨w.heap.size, 2, none⟩ = some (.int .u64 (mk : Int))) (go_keep)
        (first | (go_at_call 68; refine (put_any _ B tb g v ts I1.out.drew (by exact Nat.le_trans hB hsz) (by omega) k wd mk).mono ?_; rintro e w2 ⟨rfl, g', v', hI2, hg', hT⟩; have hT2 := hT.undrew; have b2 := b1.touch hT2 (by omega) (by omega); obtain ⟨f0, f1, f2⟩ := b2.c3))
      go_wp2
      go_ret2
      refine ⟨by rw [HE.out, HN.out]; rfl, g', v', by rw [HL.out]; exact hI2, ?_, (Touch.of_below hB1.out).trans hT2⟩
      rcases hg' with h | h
      · exact .inl h
      · right
        have h4 : w1.heap.size ≤ g' := h
        omega
end Go.Proofs.YtmjkohjijoddaaaDoor
