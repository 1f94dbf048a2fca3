/- Tables: Copy, New. -/
import Derived.Test.YtmjkohjijoddaaaDoorTableE
import Derived.LoopTactic
namespace Go.Proofs.YtmjkohjijoddaaaDoor
open Go.RowKit
set_option linter.unusedVariables false
set_option linter.unusedSimpArgs false

theorem tb_new {w : World} {B : Nat} {v : Value} {ts : List Ty} (h : w.ownsRow B 72 3 v ts.length (ts.flatMap tyC)) (hB : B ≤ w.heap.size) (hi : ts.length ≤ 64) :
    IsTb (w.alloc (.cells #[v] 87)) B w.heap.size (v.ownBlock.getD w.heap.size) v ts ∧ B ≤ v.ownBlock.getD w.heap.size := by
  have hl := fun k (e : v.ownBlock = some k) => h.lt k e
  refine ⟨⟨Blk.new w _ _, h.alloc _, rfl, fun e => by have := hl _ e; omega, hB, hi⟩, ?_⟩
  cases ho : v.ownBlock with
  | none => simpa using hB
  | some k => have := hl k ho; simp; omega

theorem tb_start (w : World) : IsTb (w.alloc (.cells #[.slice none 0 0] 87)) w.heap.size w.heap.size w.heap.size (.slice none 0 0) [] := by
  have h := (tb_new (w := w) (B := w.heap.size) (v := .slice none 0 0) (ts := []) (World.ownsRow_nil _ _ _ _) (Nat.le_refl _) (by simp)).1
  simpa [Value.ownBlock] using h

/-- What Copy gives. -/
def GivesTb (ts : List Ty) (w : World) (e : Ending) (w' : World) : Prop :=
  ∃ tb g v, e = .returned (.pointer (some ⟨tb, 0, none⟩)) ∧ IsTb w' w.heap.size tb g v ts ∧ w.heap.size ≤ g ∧ Below w.heap.size w w'


/-- The error of types that are added one by one. -/
def newE : List Ty → List Ty → Int
  | _, [] => 0
  | acc, t :: r => if addE acc t = 0 then newE (acc ++ [t]) r else addE acc t

theorem take_getD {α : Type} (l : List α) (k : Nat) (d : α) (h : k < l.length) : l.take (k + 1) = l.take k ++ [l.getD k d] := by
  rw [List.take_succ_eq_append_getElem h]; simp [List.getD, h]
theorem drop_getD {α : Type} (l : List α) (k : Nat) (d : α) (h : k < l.length) : l.drop k = l.getD k d :: l.drop (k + 1) := by
  rw [List.drop_eq_getElem_cons h]; simp [List.getD, h]
theorem getD_mem {α : Type} (l : List α) (k : Nat) (d : α) (h : k < l.length) : l.getD k d ∈ l := by
  simp [List.getD, h]

/-- What New gives. -/
def GivesNew (ts : List Ty) (w : World) (e : Ending) (w' : World) : Prop :=
  (newE [] ts ≠ 0 ∧ e = .returned (.tuple #[.pointer none, .int .i64 (newE [] ts)]) ∧ Below w.heap.size w w') ∨
  (newE [] ts = 0 ∧ ∃ tb g v, e = .returned (.tuple #[.pointer (some ⟨tb, 0, none⟩), .int .i64 0]) ∧ IsTb w' w.heap.size tb g v ts ∧ w.heap.size ≤ g ∧ Below w.heap.size w w')

set_option maxHeartbeats 2000000 in
theorem newT_any (w : World) (A : Option Addr) (n c : Nat) (ts : List Ty) (hr : Reads w w.heap.size 3 A n (ts.flatMap tyC)) (hl : ts.length = n) (hok : ∀ t ∈ ts, OkW t) (hn : n ≤ 1000000) :
    Calls Tryd.prog 18 #[.slice A n c] w (GivesNew ts w) := by
  have HR := Lib.hid hr
  have HL := Lib.hid hl
  have HO := Lib.hid hok
  have HS := Lib.hid (tb_start w)
  clear hr hl hok
  go_enter Tryd.func18, Tryd.ntmps18
  go_wp2_with fail
  go_loopw [13] (fun i wr => ∃ (k : Nat) (g : Nat) (v : Value), k ≤ n ∧ i = .int .i64 (k : Int) ∧ IsTb wr w.heap.size w.heap.size g v (ts.take k) ∧ w.heap.size ≤ g ∧ Below w.heap.size w wr ∧ Hid (newE (ts.take k) (ts.drop k) = newE [] ts)) (fun i _ => n - (intOf i).toNat)
  case atStart => exact ⟨0, w.heap.size, _, by omega, rfl, HS.out, Nat.le_refl _, balloc (Below.refl _ w) _, Lib.hid rfl⟩
  case round =>
    obtain ⟨k, g, v, hk, rfl, hI, hg, hbl, HQ⟩ := hrel
    by_cases hlt : k < n
    · obtain ⟨b, o, rfl, hb, d0, d1, d2⟩ := HR.out.ty hlt
      have e0 := (hbl.cell (p := ⟨b, o + k * 3, none⟩) hb).trans d0
      have e1 := (hbl.cell (p := ⟨b, o + k * 3 + 1, none⟩) hb).trans d1
      have e2 := (hbl.cell (p := ⟨b, o + k * 3 + 2, none⟩) hb).trans d2
      have hw := HO.out _ (getD_mem ts k (0, 0, 0) (by rw [HL.out]; exact hlt))
      have HT := Lib.hid (take_getD ts k (0, 0, 0) (by rw [HL.out]; exact hlt))
      have HD := Lib.hid (drop_getD ts k (0, 0, 0) (by rw [HL.out]; exact hlt))
      clear d0 d1 d2
      generalize ts.getD k (0, 0, 0) = t at *
      obtain ⟨t1, t2, t3⟩ := t
      have HA := Lib.hid (fun W (hW : IsTb W w.heap.size w.heap.size g v (ts.take k)) hB => add_any W w.heap.size w.heap.size g v (ts.take k) hW hB t1 t2 t3 ⟨hw.k0, hw.k1⟩ ⟨hw.w0, hw.w1⟩ hw.m1)
      have HI := Lib.hid hI
      have HB := Lib.hid hbl
      have hsz := hbl.size
      clear hI hbl hw
      by_cases hE : addE (ts.take k) (t1, t2, t3) = 0
      · have HE := Lib.hid hE
        clear hE
        go_wp2_with fail
        refine (HA.out _ (HI.out.nx ((Below.refl _ _).alloc (Nat.le_refl _) _)) (by simp; omega)).mono ?_
        rintro e w2 ⟨rfl, g', v', hI', hg', hT⟩
        rw [HE.out]
        have HI' := Lib.hid hI'
        have HT' := Lib.hid hT
        clear hI' hT
        go_wp2_with fail
        go_roundw
        case rel =>
          refine ⟨k + 1, g', v', by omega, by go_num, ?_, by simp at hg'; omega, Below.touch (HB.out.alloc hsz _) (Nat.le_refl _) hg (Nat.le_refl _) HT'.out, Lib.hid ?_⟩
          · have := HI'.out
            rw [addL, if_pos HE.out, ← HT.out] at this
            exact this
          · have := HQ.out
            rw [HD.out, newE, if_pos HE.out, ← HT.out] at this
            exact this
        case measure => simp [intOf]; omega
      · have hne : (addE (ts.take k) (t1, t2, t3) != 0) = true := by simpa using hE
        have HE := Lib.hid hE
        clear hE
        generalize hX : addE (ts.take k) (t1, t2, t3) = X at *
        have HX := Lib.hid hX
        clear hX
        go_wp2_with fail
        refine (HA.out _ (HI.out.nx ((Below.refl _ _).alloc (Nat.le_refl _) _)) (by simp; omega)).mono ?_
        rintro e w2 ⟨rfl, g', v', hI', hg', hT⟩
        rw [HX.out]
        have HT' := Lib.hid hT
        clear hI' hT hg'
        go_wp2_with fail
        go_ret2
        have hq := HQ.out
        rw [HD.out, newE, HX.out, if_neg HE.out] at hq
        refine .inl ⟨by rw [← hq]; exact HE.out, by rw [← hq]; rfl, Below.touch (HB.out.alloc hsz _) (Nat.le_refl _) hg (Nat.le_refl _) HT'.out⟩
    · obtain rfl : k = n := by omega
      have HI := Lib.hid hI
      have HB := Lib.hid hbl
      clear hI hbl
      go_wp2_with fail
      go_ret2
      have hI := HI.out
      have hq := HQ.out
      rw [List.take_of_length_le (by rw [HL.out]; exact Nat.le_refl _)] at hI hq
      rw [List.drop_of_length_le (by rw [HL.out]; exact Nat.le_refl _), newE] at hq
      exact .inr ⟨hq.symm, _, _, _, rfl, hI, hg, HB.out⟩
end Go.Proofs.YtmjkohjijoddaaaDoor
