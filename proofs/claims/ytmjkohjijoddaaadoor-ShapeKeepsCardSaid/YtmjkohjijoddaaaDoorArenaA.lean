/- Arenas in memory; New, Len, has, Load, Store, Writes. -/
import Derived.Test.YtmjkohjijoddaaaDoorBase
import Derived.LoopTactic
import Derived.Deep.OwnRows
import Derived.Laws.MakeOwn
namespace Go.Proofs.YtmjkohjijoddaaaDoor
open Go.RowKit
set_option linter.unusedVariables false
set_option linter.unusedSimpArgs false

/-- An arena: its struct in block bs, its words in block br, with what is spare behind them; c: how many were written. -/
structure IsAr (w : World) (bs br : Nat) (ws : List Int) (rs : List Value) (c : Nat) : Prop where
  s : Blk w bs 105 #[.slice (some ⟨br, 0, none⟩) ws.length (ws.length + rs.length), .int .u64 (c : Int)]
  r : Blk w br 24 (ws.map (Value.int .u64) ++ rs).toArray
  ne : bs ≠ br
  lo : 16 ≤ ws.length
  hi : ws.length ≤ 65536

/-- Nothing but these two blocks, and what is new, has turned. -/
structure Touch (bs br : Nat) (w w' : World) : Prop where
  os : w'.os = w.os
  tape : w'.tape = w.tape
  output : w'.output = w.output
  size : w.heap.size ≤ w'.heap.size
  block : ∀ i, i < w.heap.size → i ≠ bs → i ≠ br → w'.heap[i]? = w.heap[i]?

section
variable {w w' w'' : World} {bs br : Nat} {ws : List Int} {rs : List Value} {c : Nat}
theorem Touch.refl (bs br : Nat) (w : World) : Touch bs br w w := ⟨rfl, rfl, rfl, Nat.le_refl _, fun _ _ _ _ => rfl⟩
theorem Touch.trans (h : Touch bs br w w') (h2 : Touch bs br w' w'') : Touch bs br w w'' :=
  ⟨h2.os.trans h.os, h2.tape.trans h.tape, h2.output.trans h.output, Nat.le_trans h.size h2.size, fun i h1 h3 h4 => (h2.block i (Nat.lt_of_lt_of_le h1 h.size) h3 h4).trans (h.block i h1 h3 h4)⟩
theorem Touch.of_below (h : Below w.heap.size w w') : Touch bs br w w' := ⟨h.os, h.tape, h.output, h.size, fun i hi _ _ => h.block i hi⟩
theorem Touch.drewN (h : Touch bs br w w') (n : Nat) : Touch bs br w (w'.drewN n) := ⟨h.os, h.tape, h.output, h.size, h.block⟩
theorem Touch.setCell (h : Touch bs br w w') {p : Addr} (hp : p.block = bs ∨ p.block = br ∨ w.heap.size ≤ p.block) (u : Value) : Touch bs br w (w'.setCell p u) :=
  ⟨h.os, h.tape, h.output, by simpa [World.setCell] using h.size, fun i h1 h2 h3 => (Below.heap_setCell w' p u i (by rcases hp with rfl | rfl | hp; exact h2; exact h3; omega)).trans (h.block i h1 h2 h3)⟩
theorem Touch.alloc (h : Touch bs br w w') (o : Obj) : Touch bs br w (w'.alloc o) :=
  ⟨h.os, h.tape, h.output, Nat.le_trans h.size (by simp), fun i h1 h2 h3 => (Below.heap_alloc w' o i (Nat.lt_of_lt_of_le h1 h.size)).trans (h.block i h1 h2 h3)⟩
theorem Below.touch {B : Nat} {w0 : World} (h : Below B w0 w) (hs : B ≤ bs) (hr : B ≤ br) (hB : B ≤ w0.heap.size) (ht : Touch bs br w w') : Below B w0 w' :=
  ⟨ht.os.trans h.os, ht.tape.trans h.tape, ht.output.trans h.output, Nat.le_trans h.size ht.size, fun i hi => (ht.block i (Nat.lt_of_lt_of_le hi (Nat.le_trans hB h.size)) (by omega) (by omega)).trans (h.block i hi)⟩
theorem Blk.touch {g : Nat} {t : TypeId} {cs : Array Value} (h : Blk w g t cs) (ht : Touch bs br w w') (h1 : g ≠ bs) (h2 : g ≠ br) : Blk w' g t cs := (ht.block g h.lt h1 h2).trans h
theorem IsAr.nx (h : IsAr w bs br ws rs c) (hb : Below w.heap.size w w') : IsAr w' bs br ws rs c := ⟨h.s.nx hb, h.r.nx hb, h.ne, h.lo, h.hi⟩
theorem IsAr.alloc (h : IsAr w bs br ws rs c) (o : Obj) : IsAr (w.alloc o) bs br ws rs c := ⟨h.s.alloc o, h.r.alloc o, h.ne, h.lo, h.hi⟩
theorem IsAr.drewN (h : IsAr w bs br ws rs c) (n : Nat) : IsAr (w.drewN n) bs br ws rs c := ⟨h.s.drewN n, h.r.drewN n, h.ne, h.lo, h.hi⟩
theorem IsAr.cell (h : IsAr w bs br ws rs c) {i : Nat} (hi : i < ws.length) : w.cell? ⟨br, i, none⟩ = some (.int .u64 (ws.getD i 0)) := by
  rw [h.r.cell i]
  simp [List.getD, hi, List.getElem?_append]
theorem IsAr.reads (h : IsAr w bs br ws rs c) : Reads w w.heap.size 1 (some ⟨br, 0, none⟩) ws.length (ws.map (Value.int .u64)) :=
  ⟨by simp, fun _ => ⟨_, rfl, h.r.lt, fun j u hu => by
    have e : (⟨br, 0, none⟩ : Addr).add j = ⟨br, j, none⟩ := by unfold Addr.add; split <;> simp_all
    have hj : j < ws.length := by have := (List.getElem?_eq_some_iff.1 hu).1; simpa using this
    rw [e, h.r.cell j, ← hu]
    simp [hj, List.getElem?_append]⟩⟩
end

/-- Are words within? -/
def hasE (len : Nat) (i n : Int) : Int := if 0 ≤ i ∧ 0 ≤ n ∧ i ≤ len ∧ n ≤ len - i then 0 else 2

set_option maxHeartbeats 1000000 in
theorem has_any (w : World) (bs br : Nat) (ws : List Int) (rs : List Value) (c : Nat) (h : IsAr w bs br ws rs c) (i n : Int) (i0 : -9223372036854775808 ≤ i) (i1 : i ≤ 9223372036854775807) (n0 : -9223372036854775808 ≤ n) (n1 : n ≤ 9223372036854775807) :
    Calls Tryd.prog 66 #[.pointer (some ⟨bs, 0, none⟩), .int .i64 i, .int .i64 n] w fun e w' => e = .returned (.int .i64 (hasE ws.length i n)) ∧ w = w' := by
  obtain ⟨c0, c1⟩ := h.s.c2
  have hl := h.hi
  clear h
  generalize rs.length = R at *
  generalize ws.length = L at *
  have hcs : i < 0 ∨ (0 ≤ i ∧ n < 0) ∨ (0 ≤ i ∧ 0 ≤ n ∧ (L : Int) < i) ∨ (0 ≤ i ∧ 0 ≤ n ∧ i ≤ L ∧ (L : Int) - i < n) ∨ (0 ≤ i ∧ 0 ≤ n ∧ i ≤ L ∧ n ≤ L - i) := by omega
  rcases hcs with h1 | ⟨h1, h2⟩ | ⟨h1, h2, h3⟩ | ⟨h1, h2, h3, h4⟩ | ⟨h1, h2, h3, h4⟩
  all_goals
    go_enter Tryd.func66, Tryd.ntmps66
    go_wp2
    go_ret
    exact ⟨ret_int (by unfold hasE; first | rw [if_pos (by omega)] | rw [if_neg (by omega)]), rfl⟩

theorem hasE_yes {len : Nat} {i n : Int} (h : hasE len i n = 0) : 0 ≤ i ∧ 0 ≤ n ∧ i ≤ len ∧ n ≤ len - i := by
  unfold hasE at h
  split at h
  · assumption
  · omega
theorem hasE_no {len : Nat} {i n : Int} (h : hasE len i n ≠ 0) : hasE len i n = 2 := by
  unfold hasE at h ⊢
  split
  · simp_all
  · rfl
theorem hasE_is {len : Nat} {i n : Int} (h : 0 ≤ i ∧ 0 ≤ n ∧ i ≤ len ∧ n ≤ len - i) : hasE len i n = 0 := by
  unfold hasE
  rw [if_pos h]
theorem hasE_not {len : Nat} {i n : Int} (h : ¬ (0 ≤ i ∧ 0 ≤ n ∧ i ≤ len ∧ n ≤ len - i)) : hasE len i n = 2 := by
  unfold hasE
  rw [if_neg h]

section
variable (w : World) (bs br : Nat) (ws : List Int) (rs : List Value) (c : Nat) (h : IsAr w bs br ws rs c)
include h

theorem len_any : Calls Tryd.prog 54 #[.pointer (some ⟨bs, 0, none⟩)] w fun e w' => e = .returned (.int .i64 (ws.length : Int)) ∧ w = w' := by
  obtain ⟨c0, c1⟩ := h.s.c2
  go_enter Tryd.func54, Tryd.ntmps54
  go_wp2
  go_ret
  exact ⟨rfl, rfl⟩

/-- What Load tells. -/
def ldV (ws : List Int) (i : Int) : Int := if hasE ws.length i 1 = 0 then ws.getD i.toNat 0 else 0

set_option maxHeartbeats 1000000 in
theorem load_any (i : Int) (i0 : -9223372036854775808 ≤ i) (i1 : i ≤ 9223372036854775807) : Calls Tryd.prog 48 #[.pointer (some ⟨bs, 0, none⟩), .int .i64 i] w fun e w' => e = .returned (.tuple #[.int .u64 (ldV ws i), .int .i64 (hasE ws.length i 1)]) ∧ w = w' := by
  have HC := Lib.hid (has_any w bs br ws rs c h i 1 i0 i1 (by omega) (by omega))
  by_cases hh : hasE ws.length i 1 = 0
  · obtain ⟨h1, _, h2, h3⟩ := hasE_yes hh
    obtain ⟨j, rfl⟩ := Int.eq_ofNat_of_zero_le h1
    have hj : j < ws.length := by omega
    have hc := h.cell hj
    obtain ⟨c0, c1⟩ := h.s.c2
    have HV := Lib.hid (show ldV ws (j : Int) = ws.getD j 0 by simp [ldV, hh])
    have HH := Lib.hid hh
    have hj' : (j : Int) < (ws.length : Int) := by omega
    clear hh h i0 i1 h2 h3
    generalize ws.getD j 0 = x at *
    go_enter Tryd.func48, Tryd.ntmps48
    go_wp2_with fail
    refine HC.out.mono ?_
    rintro e w' ⟨rfl, rfl⟩
    rw [HH.out]
    go_wp2_with fail
    go_ret2
    rw [HV.out, HH.out]
    exact ⟨rfl, rfl⟩
  · have HV := Lib.hid (show ldV ws i = 0 by simp [ldV, hh])
    have HH := Lib.hid (hasE_no hh)
    clear hh h i0 i1
    go_enter Tryd.func48, Tryd.ntmps48
    go_wp2_with fail
    refine HC.out.mono ?_
    rintro e w' ⟨rfl, rfl⟩
    rw [HH.out]
    go_wp2_with fail
    go_ret2
    rw [HV.out, HH.out]
    exact ⟨rfl, rfl⟩

/-- Behind Store. -/
def stW (ws : List Int) (i v : Int) : List Int := if hasE ws.length i 1 = 0 then ws.set i.toNat v else ws
def stC (ws : List Int) (i : Int) (c : Nat) : Nat := if hasE ws.length i 1 = 0 then c + 1 else c

set_option maxHeartbeats 1000000 in
theorem store_any (i v : Int) (i0 : -9223372036854775808 ≤ i) (i1 : i ≤ 9223372036854775807) (hc : c ≤ 1000000000000) : Calls Tryd.prog 49 #[.pointer (some ⟨bs, 0, none⟩), .int .i64 i, .int .u64 v] w fun e w' =>
    e = .returned (.int .i64 (hasE ws.length i 1)) ∧ IsAr w' bs br (stW ws i v) rs (stC ws i c) ∧ Touch bs br w w' := by
  have HC := Lib.hid (has_any w bs br ws rs c h i 1 i0 i1 (by omega) (by omega))
  by_cases hh : hasE ws.length i 1 = 0
  · obtain ⟨h1, _, h2, h3⟩ := hasE_yes hh
    obtain ⟨j, rfl⟩ := Int.eq_ofNat_of_zero_le h1
    have hj : j < ws.length := by omega
    have hcell := h.cell hj
    obtain ⟨c0, c1⟩ := h.s.c2
    have hfr := h.r.frozen j
    have hf1 := h.s.frozen 1
    have hne := h.ne
    have HI := Lib.hid h
    have HV := Lib.hid (show stW ws (j : Int) v = ws.set j v by simp [stW, hh])
    have HW := Lib.hid (show stC ws (j : Int) c = c + 1 by simp [stC, hh])
    have HH := Lib.hid hh
    have hj' : (j : Int) < (ws.length : Int) := by omega
    have hwr : IntKind.u64.wrap ((c : Int) + 1) = (c : Int) + 1 := by simp [IntKind.wrap, IntKind.signed, IntKind.bits]; omega
    clear hh h i0 i1 h2 h3
    generalize ws.getD j 0 = x at *
    go_enter Tryd.func49, Tryd.ntmps49
    go_wp2_with fail
    refine HC.out.mono ?_
    rintro e w' ⟨rfl, rfl⟩
    rw [HH.out]
    go_wp2_with fail
    go_ret
    rw [HV.out, HW.out, HH.out]
    refine ⟨rfl, ?_, ((Touch.refl bs br w).setCell (.inr (.inl rfl)) _).setCell (.inl rfl) _⟩
    have hI := HI.out
    refine ⟨?_, ?_, hI.ne, by simpa using hI.lo, by simpa using hI.hi⟩
    · have := (hI.s.far (p := ⟨br, j, none⟩) hI.ne (.int .u64 v)).set_ 1 (.int .u64 ((c : Int) + 1))
      simpa using this
    · have := (hI.r.set_ j (.int .u64 v)).far (p := ⟨bs, 1, none⟩) (fun e => hI.ne e.symm) (.int .u64 ((c : Int) + 1))
      simpa [List.map_set, List.set_append, hj] using this
  · have HV := Lib.hid (show stW ws i v = ws by simp [stW, hh])
    have HW := Lib.hid (show stC ws i c = c by simp [stC, hh])
    have HI := Lib.hid h
    have HH := Lib.hid (hasE_no hh)
    clear hh h i0 i1
    go_enter Tryd.func49, Tryd.ntmps49
    go_wp2_with fail
    refine HC.out.mono ?_
    rintro e w' ⟨rfl, rfl⟩
    rw [HH.out]
    go_wp2_with fail
    go_ret
    rw [HV.out, HW.out, HH.out]
    exact ⟨rfl, HI.out, Touch.refl _ _ _⟩
end
end Go.Proofs.YtmjkohjijoddaaaDoor
