/- Tables: slices.Clone of types, All, Len, Size. -/
import Derived.Test.YtmjkohjijoddaaaDoorTableD
import Derived.Test.YtmjkohjijoddaaaDoorTys
import Derived.Test.YtmjkohjijoddaaaDoorArenaB
namespace Go.Proofs.YtmjkohjijoddaaaDoor
open Go.RowKit
set_option linter.unusedVariables false
set_option linter.unusedSimpArgs false

theorem tysC_one (ts : List Ty) : ∀ u ∈ ts.flatMap tyC, u.oneCell' = true := by
  intro u hu
  obtain ⟨⟨k, wd, mk⟩, _, hu⟩ := List.mem_flatMap.1 hu
  exact tyC_one k wd mk u hu

set_option maxHeartbeats 1000000 in
theorem cloneT_some (w : World) (ad : Addr) (n c : Nat) (ts : List Ty) (hr : Reads w w.heap.size 3 (some ad) n (ts.flatMap tyC)) (hn : n ≤ 1000000000) :
    Calls Tryd.prog 76 #[.slice (some ad) n c] w (GivesOwn 72 3 n (ts.flatMap tyC) w) := by
  have HR := Lib.hid hr
  clear hr
  obtain ⟨i0, hi, hz0, hz1, hz2⟩ := info_parts Tryd.infoTy
  have HI := Lib.hid hi
  have Z0 := Lib.hid hz0
  have Z1 := Lib.hid hz1
  have Z2 := Lib.hid hz2
  clear hi hz0 hz1 hz2
  have heq := fun W => Lib.run_eql_slice_nil (P := Tryd.prog) W 35 72 (some ad) n c 0 0 Tryd.underlying35
  simp only [Option.isNone_some] at heq
  go_enter Tryd.func76, Tryd.ntmps76
  go_wp2_with (at_builtin; refine wpList_append_any _ rfl _ _ 35 rfl w.heap.size 72 i0 (.agg #[.int .u8 0, .int .i64 0, .int .u64 0]) 3 24 Tryd.underlying35 HI.out Z0.out Z1.out Z2.out rfl (by decide) _ 0 [] rfl ?c1 w.heap.size (some ad) n c (ts.flatMap tyC) rfl ?c2 ?c3 ?c4 ?c5 ?c6 ?_)
  case c1 => exact World.ownsRow_lit w #[] 0 (Nat.le_refl _) (by unfold maxLen; omega) rfl
  case c2 => exact HR.out.alloc (Nat.le_refl _) _
  case c3 => exact tysC_one ts
  case c4 => unfold maxLen; omega
  case c5 => omega
  case c6 => simp
  intro v' w' hown hgr _
  have hB : Below w.heap.size w w' := ((Below.refl _ w).alloc (Nat.le_refl _) _).grown hgr (by simp) (fun k e => by simp [Value.ownBlock] at e; omega)
  go_wp2_with fail
  go_ret
  exact ⟨v', rfl, by simpa using hown, hB⟩

set_option maxHeartbeats 1000000 in
theorem cloneT_none (w : World) : Calls Tryd.prog 76 #[.slice none 0 0] w (GivesOwn 72 3 0 [] w) := by
  have heq := fun W => Lib.run_eql_slice_nil (P := Tryd.prog) W 35 72 none 0 0 0 0 Tryd.underlying35
  simp only [Option.isNone_none] at heq
  go_enter Tryd.func76, Tryd.ntmps76
  go_wp2_with fail
  go_ret
  exact ⟨_, rfl, World.ownsRow_nil _ _ _ _, Below.refl _ _⟩

theorem cloneT_own (w : World) (B : Nat) (A : Option Addr) (c : Nat) (ts : List Ty) (h : w.ownsRow B 72 3 (.slice A ts.length c) ts.length (ts.flatMap tyC)) (hn : ts.length ≤ 1000000000) :
    Calls Tryd.prog 76 #[.slice A ts.length c] w (GivesOwn 72 3 ts.length (ts.flatMap tyC) w) := by
  cases A with
  | none =>
    rcases h.2 with ⟨e, h0⟩ | ⟨g, cap, cur, e, _⟩
    · injection e with e1 e2 e3
      have : ts = [] := List.eq_nil_of_length_eq_zero e2
      subst this
      subst e3
      exact cloneT_none w
    · injection e with e1; cases e1
  | some ad => exact cloneT_some w ad _ c ts (Reads.of_own h) hn

section
variable (w : World) (B tb g : Nat) (v : Value) (ts : List Ty) (h : IsTb w B tb g v ts)
include h

set_option maxHeartbeats 1000000 in
theorem allT_any : Calls Tryd.prog 61 #[.pointer (some ⟨tb, 0, none⟩)] w (GivesOwn 72 3 ts.length (ts.flatMap tyC) w) := by
  obtain ⟨A, c, rfl, hnc⟩ := own_form h.r
  have c0 := h.s.c1
  have hh := h.hi
  have HC := Lib.hid (cloneT_own w B A c ts h.r (by omega))
  clear h
  go_enter Tryd.func61, Tryd.ntmps61
  go_wp2_with fail
  refine HC.out.mono ?_
  rintro e w1 ⟨v1, rfl, hown, hb⟩
  go_wp2_with fail
  go_ret
  exact ⟨v1, rfl, hown, hb⟩

set_option maxHeartbeats 1000000 in
theorem lenT_any : Calls Tryd.prog 33 #[.pointer (some ⟨tb, 0, none⟩)] w fun e w' => e = .returned (.int .i64 (ts.length : Int)) ∧ Below w.heap.size w w' := by
  have HC := Lib.hid (allT_any w B tb g v ts h)
  clear h
  go_enter Tryd.func33, Tryd.ntmps33
  go_wp2_with fail
  refine HC.out.mono ?_
  rintro e w1 ⟨v1, rfl, hown, hb⟩
  obtain ⟨A1, c1, hv, _⟩ := own_form hown
  rw [hv]
  clear hown hv
  go_wp2_with fail
  go_ret
  exact ⟨rfl, hb⟩

/-- What Size gives. -/
def szE (ts : List Ty) (id n : Int) : Int := if inT ts id then ofE (getT ts id).1 (getT ts id).2.1 (getT ts id).2.2 n else 3
def szG (ts : List Ty) (id n : Int) : Int := if inT ts id then gS (getT ts id).1 (getT ts id).2.1 (getT ts id).2.2 n else 0

omit h in
theorem getT_ok {ts : List Ty} (hok : ∀ t ∈ ts, OkW t) (id : Int) : OkW (getT ts id) := by
  unfold getT
  by_cases hi : inT ts id
  · rw [if_pos hi]
    have : (id - 1).toNat < ts.length := by simp [inT] at hi; omega
    simp only [List.getD, List.getElem?_eq_getElem this, Option.getD_some]
    exact hok _ (List.getElem_mem _)
  · rw [if_neg hi]
    exact ⟨by decide, by decide, by decide, by decide, by decide⟩

set_option maxHeartbeats 1000000 in
theorem sizeT_any (hok : ∀ t ∈ ts, OkW t) (id n : Int) (i0 : -9223372036854775808 ≤ id) (i1 : id ≤ 9223372036854775807) :
    Calls Tryd.prog 58 #[.pointer (some ⟨tb, 0, none⟩), .int .i64 id, .int .i64 n] w fun e w' => e = .returned (.tuple #[.int .i64 (szG ts id n), .int .i64 (szE ts id n)]) ∧ Below w.heap.size w w' := by
  have HC := Lib.hid (get_any w B tb g v ts h id i0 i1)
  have hk := getT_ok hok id
  cases hin : inT ts id
  · have HE := Lib.hid (show szE ts id n = 3 by simp [szE, hin])
    have HG := Lib.hid (show szG ts id n = 0 by simp [szG, hin])
    have HF := Lib.hid (show getE ts id = 3 by simp [getE, hin])
    clear h hok i0 i1 hk hin
    generalize getT ts id = t at *
    obtain ⟨t1, t2, t3⟩ := t
    go_enter Tryd.func58, Tryd.ntmps58
    go_wp2_with fail
    refine HC.out.mono ?_
    rintro e w1 ⟨rfl, hb⟩
    rw [HF.out]
    have hB := hb
    clear hb
    go_wp2_with fail
    go_ret2
    rw [HE.out, HG.out]
    exact ⟨rfl, balloc hB _⟩
  · have HE := Lib.hid (show szE ts id n = ofE (getT ts id).1 (getT ts id).2.1 (getT ts id).2.2 n by simp [szE, hin])
    have HG := Lib.hid (show szG ts id n = gS (getT ts id).1 (getT ts id).2.1 (getT ts id).2.2 n by simp [szG, hin])
    have HF := Lib.hid (show getE ts id = 0 by simp [getE, hin])
    have HK := Lib.hid (fun W => ksize_any (getT ts id).1 (getT ts id).2.1 (getT ts id).2.2 n W ⟨hk.k0, hk.k1⟩ ⟨hk.w0, hk.w1⟩ hk.m1)
    clear h hok i0 i1 hk hin
    generalize getT ts id = t at *
    obtain ⟨t1, t2, t3⟩ := t
    go_enter Tryd.func58, Tryd.ntmps58
    go_wp2_with fail
    refine HC.out.mono ?_
    rintro e w1 ⟨rfl, hb⟩
    rw [HF.out]
    have hB := hb
    clear hb
    go_wp2_with fail
    refine (HK.out _).mono ?_
    rintro e w2 ⟨rfl, hb⟩
    have hB2 := bnext (balloc hB _) hb
    clear hb
    go_wp2_with fail
    go_ret2
    rw [HE.out, HG.out]
    exact ⟨rfl, hB2⟩
end

/-! No table. -/
section
variable (w : World)
set_option maxHeartbeats 1000000 in
theorem addT_nil (k wd : Int) (mk : Nat) : Calls Tryd.prog 50 #[.pointer none, .agg #[.int .u8 k, .int .i64 wd, .int .u64 (mk : Int)]] w fun e w' => e = .returned (.tuple #[.int .i64 0, .int .i64 1]) ∧ Below w.heap.size w w' := by
  go_enter Tryd.func50, Tryd.ntmps50
  go_wp2_with fail
  go_ret2
  exact ⟨rfl, balloc (Below.refl _ w) _⟩
set_option maxHeartbeats 1000000 in
theorem getT_nil (id : Int) : Calls Tryd.prog 56 #[.pointer none, .int .i64 id] w fun e w' => e = .returned (.tuple #[.agg #[.int .u8 0, .int .i64 0, .int .u64 0], .int .i64 1]) ∧ Below w.heap.size w w' := by
  go_enter Tryd.func56, Tryd.ntmps56
  go_wp2_with fail
  refine bodyPost_ret (v := .tuple #[.agg #[.int .u8 0, .int .i64 0, .int .u64 0], .int .i64 1]) (by simp [results, Tryd.results56, go_sem]) rfl ⟨rfl, ?_⟩
  exact balloc (Below.refl _ w) _
set_option maxHeartbeats 1000000 in
theorem sizeT_nil (id n : Int) : Calls Tryd.prog 58 #[.pointer none, .int .i64 id, .int .i64 n] w fun e w' => e = .returned (.tuple #[.int .i64 0, .int .i64 1]) ∧ Below w.heap.size w w' := by
  go_enter Tryd.func58, Tryd.ntmps58
  go_wp2_with fail
  refine (getT_nil _ id).mono ?_
  rintro e w1 ⟨rfl, hb⟩
  have hB := hb
  clear hb
  go_wp2_with fail
  go_ret2
  exact ⟨rfl, balloc hB _⟩
set_option maxHeartbeats 1000000 in
theorem allT_nil : Calls Tryd.prog 61 #[.pointer none] w fun e w' => e = .returned (.slice none 0 0) ∧ w = w' := by
  go_enter Tryd.func61, Tryd.ntmps61
  go_wp2_with fail
  go_ret
  exact ⟨rfl, rfl⟩
set_option maxHeartbeats 1000000 in
theorem lenT_nil : Calls Tryd.prog 33 #[.pointer none] w fun e w' => e = .returned (.int .i64 0) ∧ w = w' := by
  go_enter Tryd.func33, Tryd.ntmps33
  go_wp2_with fail
  refine (allT_nil _).mono ?_
  rintro e w1 ⟨rfl, rfl⟩
  go_wp2_with fail
  go_ret
  exact ⟨rfl, rfl⟩
end
end Go.Proofs.YtmjkohjijoddaaaDoor
