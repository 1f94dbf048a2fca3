/- Arenas: New, Fill, Words; slices.Clone of words. -/
import Derived.Test.YtmjkohjijoddaaaDoorArenaA
import Derived.Lib.SliceRun
namespace Go.Proofs.YtmjkohjijoddaaaDoor
open Go.RowKit
set_option linter.unusedVariables false
set_option linter.unusedSimpArgs false

theorem Tryd.infoU64 : (Tryd.prog.info? 24).map (fun i => (i.zero, i.size, i.bytes)) = some (some (.int .u64 0), 1, 8) := by kernel_rfl

theorem made_u64 (n : Nat) : madeCells #[.int .u64 0] n = ((List.replicate n (0 : Int)).map (Value.int .u64)).toArray := by
  apply Array.ext
  · simp [madeCells]
  · intro i h1 h2
    simp [madeCells, Nat.mod_one]

/-- What New gives. -/
def GivesAr (n : Nat) (w : World) (e : Ending) (w' : World) : Prop :=
  ∃ bs br, e = .returned (.tuple #[.pointer (some ⟨bs, 0, none⟩), .int .i64 0]) ∧ IsAr w' bs br (List.replicate n 0) [] 0 ∧ w.heap.size ≤ bs ∧ w.heap.size ≤ br ∧ Below w.heap.size w w'

set_option maxHeartbeats 1000000 in
theorem new_ok (w : World) (n : Nat) (h0 : 16 ≤ n) (h1 : n ≤ 65536) (h2 : n % 2 = 0) : Calls Tryd.prog 38 #[.int .i64 (n : Int)] w (GivesAr n w) := by
  have hmk := fun W => run_make_row' (P := Tryd.prog) 34 24 (.int .u64 0) 8 Tryd.underlying34 Tryd.infoU64 rfl .i64 .i64 n (by omega) (by omega) W
  have t1 : (((n : Int) % 2) != 0) = false := by simp; omega
  go_enter Tryd.func38, Tryd.ntmps38
  go_wp2
  go_ret2
  refine ⟨w.heap.size + 1, w.heap.size, rfl, ⟨?_, ?_, ?_, by simpa using h0, by simpa using h1⟩, ?_, ?_, (balloc (balloc (Below.refl _ w) _) _)⟩
  · simpa using Blk.new_at (w.alloc (.cells (madeCells #[.int .u64 0] n) 24)) (w.heap.size + 1) 105 _ (by simp)
  · rw [List.append_nil, ← made_u64]
    exact (Blk.new w 24 _).alloc _
  · simp
  · simp
  · simp

set_option maxHeartbeats 1000000 in
theorem new_no (w : World) (n : Int) (n0 : -9223372036854775808 ≤ n) (n1 : n ≤ 9223372036854775807) (h : n < 16 ∨ 65536 < n ∨ (16 ≤ n ∧ n ≤ 65536 ∧ n % 2 ≠ 0)) : Calls Tryd.prog 38 #[.int .i64 n] w fun e w' => e = .returned (.tuple #[.pointer none, .int .i64 2]) ∧ w = w' := by
  rcases h with h | h | ⟨h1, h2, h3⟩
  · go_enter Tryd.func38, Tryd.ntmps38
    go_wp2
    go_ret2
    exact ⟨rfl, rfl⟩
  · go_enter Tryd.func38, Tryd.ntmps38
    go_wp2
    go_ret2
    exact ⟨rfl, rfl⟩
  · have t1 : ((n % 2) != 0) = true := by simpa using h3
    clear h3
    go_enter Tryd.func38, Tryd.ntmps38
    go_wp2
    go_ret2
    exact ⟨rfl, rfl⟩

/-- The words when n of them, from i on, were set. -/
def fillN (ws : List Int) (i : Nat) (v : Int) : Nat → List Int
  | 0 => ws
  | c + 1 => (fillN ws i v c).set (i + c) v
theorem fillN_length (ws : List Int) (i : Nat) (v : Int) : ∀ c, (fillN ws i v c).length = ws.length
  | 0 => rfl
  | c + 1 => by rw [fillN, List.length_set, fillN_length ws i v c]
theorem fillN_get (ws : List Int) (i : Nat) (v : Int) : ∀ c j, (fillN ws i v c)[j]? = if i ≤ j ∧ j < i + c ∧ j < ws.length then some v else ws[j]?
  | 0, j => by simp [fillN]; intro h1 h2; omega
  | c + 1, j => by
    rw [fillN, List.getElem?_set, fillN_length, fillN_get ws i v c j]
    by_cases h1 : i + c = j
    · subst h1
      by_cases h2 : i + c < ws.length
      · simp [h2]
      · simp [h2]
    · rw [if_neg h1]
      by_cases h2 : i ≤ j ∧ j < i + c ∧ j < ws.length
      · rw [if_pos h2, if_pos (by omega)]
      · rw [if_neg h2, if_neg (by omega)]

def fiW (ws : List Int) (i n v : Int) : List Int := if hasE ws.length i n = 0 then fillN ws i.toNat v n.toNat else ws
def fiC (ws : List Int) (i n : Int) (c : Nat) : Nat := if hasE ws.length i n = 0 then c + n.toNat else c

section
variable (w : World) (bs br : Nat) (ws : List Int) (rs : List Value) (c : Nat) (h : IsAr w bs br ws rs c)
include h

set_option maxHeartbeats 1000000 in
theorem fill_any (i n v : Int) (i0 : -9223372036854775808 ≤ i) (i1 : i ≤ 9223372036854775807) (n0 : -9223372036854775808 ≤ n) (n1 : n ≤ 9223372036854775807) (hc : c ≤ 1000000000000) :
    Calls Tryd.prog 52 #[.pointer (some ⟨bs, 0, none⟩), .int .i64 i, .int .i64 n, .int .u64 v] w fun e w' =>
    e = .returned (.int .i64 (hasE ws.length i n)) ∧ IsAr w' bs br (fiW ws i n v) rs (fiC ws i n c) ∧ Touch bs br w w' := by
  have HC := Lib.hid (has_any w bs br ws rs c h i n i0 i1 n0 n1)
  by_cases hh : hasE ws.length i n = 0
  · obtain ⟨h1, h4, h2, h3⟩ := hasE_yes hh
    obtain ⟨j, rfl⟩ := Int.eq_ofNat_of_zero_le h1
    obtain ⟨m, rfl⟩ := Int.eq_ofNat_of_zero_le h4
    have HV := Lib.hid (show fiW ws (j : Int) (m : Int) v = fillN ws j v m by simp [fiW, hh])
    have HW := Lib.hid (show fiC ws (j : Int) (m : Int) c = c + m by simp [fiC, hh])
    have HH := Lib.hid hh
    have HI := Lib.hid h
    have hjm : j + m ≤ ws.length := by omega
    have hlen := h.hi
    clear hh h i0 i1 n0 n1 h2 h3
    go_enter Tryd.func52, Tryd.ntmps52
    go_wp2_with fail
    refine HC.out.mono ?_
    rintro e w' ⟨rfl, rfl⟩
    rw [HH.out]
    go_wp2_with fail
    go_loopw [19] (fun k wr => ∃ q : Nat, q ≤ m ∧ k = .int .i64 (q : Int) ∧ IsAr wr bs br (fillN ws j v q) rs c ∧ Touch bs br w wr) (fun k _ => m - (intOf k).toNat)
    case atStart => exact ⟨0, by omega, rfl, HI.out, Touch.refl _ _ _⟩
    case round =>
      obtain ⟨q, hq, rfl, hI, hT⟩ := hrel
      have hfl := fillN_length ws j v q
      by_cases hlt : q < m
      · obtain ⟨c0, c1⟩ := hI.s.c2
        rw [hfl] at c0
        have hcell := hI.cell (i := j + q) (by omega)
        have hfr := hI.r.frozen (j + q)
        have hne := hI.ne
        have HJ := Lib.hid hI
        have HT := Lib.hid hT
        have HF := Lib.hid hfl
        have hlt' : (j : Int) + (q : Int) < (ws.length : Int) := by omega
        have e1 : ((j : Int) + (q : Int)).toNat = j + q := by omega
        clear hI hT hfl
        generalize (fillN ws j v q).getD (j + q) 0 = x at *
        go_wp2_with fail
        go_roundw
        case rel =>
          refine ⟨q + 1, by omega, by go_num, ⟨?_, ?_, HJ.out.ne, by have := HJ.out.lo; simpa [fillN_length] using this, by have := HJ.out.hi; simpa [fillN_length] using this⟩, HT.out.setCell (.inr (.inl rfl)) _⟩
          · have := HJ.out.s.far (p := ⟨br, j + q, none⟩) HJ.out.ne (.int .u64 v)
            rw [fillN_length] at this ⊢
            exact this
          · have := HJ.out.r.set_ (j + q) (.int .u64 v)
            simpa [fillN, List.map_set, List.set_append, fillN_length, show j + q < ws.length by omega] using this
        case measure => simp [intOf]; omega
      · obtain rfl : q = m := by omega
        obtain ⟨c0, c1⟩ := hI.s.c2
        have hf1 := hI.s.frozen 1
        have HJ := Lib.hid hI
        have HT := Lib.hid hT
        have hu : IntKind.u64.wrap (q : Int) = (q : Int) := by simp [IntKind.wrap, IntKind.signed, IntKind.bits]; omega
        have hwr : IntKind.u64.wrap ((c : Int) + (q : Int)) = (c : Int) + (q : Int) := by simp [IntKind.wrap, IntKind.signed, IntKind.bits]; omega
        clear hI hT hfl
        go_wp2_with fail
        go_ret
        rw [HV.out, HW.out, HH.out]
        refine ⟨rfl, ⟨?_, ?_, HJ.out.ne, HJ.out.lo, HJ.out.hi⟩, HT.out.setCell (.inl rfl) _⟩
        · have := HJ.out.s.set_ 1 (.int .u64 ((c : Int) + (q : Int)))
          simpa using this
        · exact HJ.out.r.far (p := ⟨bs, 1, none⟩) (fun e => HJ.out.ne e.symm) _
  · have HV := Lib.hid (show fiW ws i n v = ws by simp [fiW, hh])
    have HW := Lib.hid (show fiC ws i n c = c by simp [fiC, hh])
    have HI := Lib.hid h
    have HH := Lib.hid (hasE_no hh)
    clear hh h i0 i1 n0 n1
    go_enter Tryd.func52, Tryd.ntmps52
    go_wp2_with fail
    refine HC.out.mono ?_
    rintro e w' ⟨rfl, rfl⟩
    rw [HH.out]
    go_wp2_with fail
    go_ret
    rw [HV.out, HW.out, HH.out]
    exact ⟨rfl, HI.out, Touch.refl _ _ _⟩
end

/-- A slice of the call's own. -/
def GivesOwn (e : TypeId) (size n : Nat) (xs : List Value) (w : World) (en : Ending) (w' : World) : Prop :=
  ∃ v, en = .returned v ∧ w'.ownsRow w.heap.size e size v n xs ∧ Below w.heap.size w w'

set_option maxHeartbeats 1000000 in
theorem clone_any (w : World) (ad : Addr) (n c : Nat) (zs : List Int) (hr : Reads w w.heap.size 1 (some ad) n (zs.map (Value.int .u64))) (hn : n ≤ 1000000000) :
    Calls Tryd.prog 69 #[.slice (some ad) n c] w (GivesOwn 24 1 n (zs.map (Value.int .u64)) w) := by
  have HR := Lib.hid hr
  clear hr
  obtain ⟨i0, hi, hz0, hz1, hz2⟩ := info_parts Tryd.infoU64
  have HI := Lib.hid hi
  have Z0 := Lib.hid hz0
  have Z1 := Lib.hid hz1
  have Z2 := Lib.hid hz2
  clear hi hz0 hz1 hz2
  have heq := fun W => Lib.run_eql_slice_nil (P := Tryd.prog) W 34 24 (some ad) n c 0 0 Tryd.underlying34
  simp only [Option.isNone_some] at heq
  go_enter Tryd.func69, Tryd.ntmps69
  go_wp2_with (at_builtin; refine wpList_append_any _ rfl _ _ 34 rfl w.heap.size 24 i0 (.int .u64 0) 1 8 Tryd.underlying34 HI.out Z0.out Z1.out Z2.out rfl (by decide) _ 0 [] rfl ?c1 w.heap.size (some ad) n c (zs.map (Value.int .u64)) rfl ?c2 ?c3 ?c4 ?c5 ?c6 ?_)
  case c1 => exact World.ownsRow_lit w #[] 0 (Nat.le_refl _) (by unfold maxLen; omega) rfl
  case c2 => exact HR.out.alloc (Nat.le_refl _) _
  case c3 => intro u hu; obtain ⟨z, _, rfl⟩ := List.mem_map.1 hu; rfl
  case c4 => unfold maxLen; omega
  case c5 => omega
  case c6 => simp
  intro v' w' hown hgr _
  have hB : Below w.heap.size w w' := ((Below.refl _ w).alloc (Nat.le_refl _) _).grown hgr (by simp) (fun k e => by simp [Value.ownBlock] at e; omega)
  go_wp2_with fail
  go_ret
  exact ⟨v', rfl, by simpa using hown, hB⟩
end Go.Proofs.YtmjkohjijoddaaaDoor
