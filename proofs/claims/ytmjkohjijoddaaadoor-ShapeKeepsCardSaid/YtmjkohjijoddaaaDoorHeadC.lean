/- head.Decode and its closure. -/
import Derived.Test.YtmjkohjijoddaaaDoorHeadB
namespace Go.Proofs.YtmjkohjijoddaaaDoor
open Go.RowKit
set_option linter.unusedVariables false
set_option linter.unusedSimpArgs false

theorem and_mod {x n : Nat} (hx : x < 18446744073709551616) (hn : 2 ^ n ≤ 18446744073709551616) :
    bits .and .u64 (x : Int) ((2 ^ n - 1 : Nat) : Int) = ((x % 2 ^ n : Nat) : Int) := by
  rw [bits_and_u64_nat x (2 ^ n - 1) hx (by have := Nat.two_pow_pos n; omega), Nat.and_two_pow_sub_one_eq_mod]

theorem of_any (f : Int) (a n : Nat) (hf : (f = 0 ∧ a = 0 ∧ n = 2) ∨ (f = 1 ∧ a = 2 ∧ n = 12) ∨ (f = 2 ∧ a = 14 ∧ n = 2) ∨ (f = 3 ∧ a = 16 ∧ n = 24) ∨ (f = 4 ∧ a = 40 ∧ n = 24))
    (x : Nat) (hx : x < 18446744073709551616) (p : Addr) (w : World) (hF : Flds w) (hc : w.cell? p = some (.int .u64 (x : Int))) :
    Calls Tryd.prog 46 #[.int .i64 f, .pointer (some p)] w fun e w' => e = .returned (.int .i64 ((x / 2 ^ a % 2 ^ n : Nat) : Int)) ∧ ∃ k, w' = w.drewN k := by
  have h0 := hF.a0
  have h1 := hF.a1
  have h2 := hF.a2
  have h3 := hF.a3
  have h4 := hF.a4
  have m0 := hF.n0
  have m1 := hF.n1
  have m2 := hF.n2
  have m3 := hF.n3
  have m4 := hF.n4
  have hxa : x / 2 ^ a < 18446744073709551616 := Nat.lt_of_le_of_lt (Nat.div_le_self _ _) hx
  have HA := Lib.hid (and_mod (n := n) hxa (by rcases hf with ⟨_, _, rfl⟩ | ⟨_, _, rfl⟩ | ⟨_, _, rfl⟩ | ⟨_, _, rfl⟩ | ⟨_, _, rfl⟩ <;> decide))
  have HW : Hid (wrap64 ((x / 2 ^ a % 2 ^ n : Nat) : Int) = ((x / 2 ^ a % 2 ^ n : Nat) : Int)) := Lib.hid (by
    have h : x / 2 ^ a % 2 ^ n < 2 ^ 24 := by
      have := Nat.mod_lt (x / 2 ^ a) (Nat.two_pow_pos n)
      rcases hf with ⟨_, _, rfl⟩ | ⟨_, _, rfl⟩ | ⟨_, _, rfl⟩ | ⟨_, _, rfl⟩ | ⟨_, _, rfl⟩ <;> omega
    generalize x / 2 ^ a % 2 ^ n = z at *
    simp [wrap64]; omega)
  clear hF hxa
  rcases hf with ⟨rfl, rfl, rfl⟩ | ⟨rfl, rfl, rfl⟩ | ⟨rfl, rfl, rfl⟩ | ⟨rfl, rfl, rfl⟩ | ⟨rfl, rfl, rfl⟩
  all_goals
    go_enter Tryd.func46, Tryd.ntmps46
    go_wp2
    go_quiet (fail)
    go_wp2
    go_ret
    refine ⟨ret_int ?_, _, rfl⟩
  all_goals
    refine Eq.trans (congrArg wrap64 ?_) HW.out
    refine Eq.trans ?_ HA.out
    congr 1
  simp

/-- Is this word a header's? -/
def okD (x : Int) : Bool := okH (x % 4) (x / 4 % 4096) (x / 65536 % 16777216) (x / 1099511627776 % 16777216) && x / 16384 % 4 == 0
/-- The header of a word, or the empty one. -/
def dT (x : Int) : Int := if okD x then x % 4 else 0
def dY (x : Int) : Int := if okD x then x / 4 % 4096 else 0
def dL (x : Int) : Int := if okD x then x / 65536 % 16777216 else 0
def dS (x : Int) : Int := if okD x then x / 1099511627776 % 16777216 else 0
def decE (x : Int) : Int := if okD x then 0 else 7

theorem Flds.drewN {w : World} (h : Flds w) (k : Nat) : Flds (w.drewN k) := h.keep h.pos fun _ => rfl

set_option maxHeartbeats 1000000 in
theorem headDecode_any (x : Nat) (hx : x < 18446744073709551616) (w : World) (hF : Flds w) :
    Calls Tryd.prog 12 #[.int .u64 (x : Int)] w fun e w' => e = .returned (.tuple #[.agg #[.int .u8 (dT x), .int .i64 (dY x), .int .i64 (dL x), .int .i64 (dS x)], .int .i64 (decE x)]) ∧ Below w.heap.size w w' := by
  have HF : Hid (∀ k, Flds (((w.alloc (.cells #[.int .u64 (x : Int)] 24)).alloc (.cells #[.int .u8 0, .int .i64 0, .int .i64 0, .int .i64 0] 23)).drewN k)) := Lib.hid (fun k => (hF.below (((Below.refl _ _).alloc (Nat.le_refl _) _).alloc (by simp) _) hF.pos).drewN k)
  have HC : Hid (∀ k, (((w.alloc (.cells #[.int .u64 (x : Int)] 24)).alloc (.cells #[.int .u8 0, .int .i64 0, .int .i64 0, .int .i64 0] 23)).drewN k).cell? ⟨w.heap.size, 0, none⟩ = some (.int .u64 (x : Int))) := Lib.hid (fun k => (World.cell?_alloc_lt _ _ _ (by simp)).trans (by simp [World.cell?_alloc_at]))
  have hw8 : IntKind.u8.wrap ((x / 2 ^ 0 % 2 ^ 2 : Nat) : Int) = ((x / 2 ^ 0 % 2 ^ 2 : Nat) : Int) := by simp [IntKind.wrap, IntKind.signed, IntKind.bits]; omega
  go_enter Tryd.func12, Tryd.ntmps12
  go_wp2_with fail
  refine (of_any 0 0 2 (by omega) x hx ⟨w.heap.size, 0, none⟩ _ (HF.out 0) (HC.out 0)).mono ?_
  rintro e w1 ⟨rfl, k1, rfl⟩
  go_wp2_with fail
  refine (of_any 1 2 12 (by omega) x hx ⟨w.heap.size, 0, none⟩ _ (HF.out _) (HC.out _)).mono ?_
  rintro e w1 ⟨rfl, k2, rfl⟩
  go_wp2_with fail
  refine (of_any 3 16 24 (by omega) x hx ⟨w.heap.size, 0, none⟩ _ (HF.out _) (HC.out _)).mono ?_
  rintro e w1 ⟨rfl, k3, rfl⟩
  go_wp2_with fail
  refine (of_any 4 40 24 (by omega) x hx ⟨w.heap.size, 0, none⟩ _ (HF.out _) (HC.out _)).mono ?_
  rintro e w1 ⟨rfl, k4, rfl⟩
  go_wp2_with fail
  have hB0 : Below w.heap.size w ((((w.alloc (.cells #[.int .u64 (x : Int)] 24)).alloc (.cells #[.int .u8 0, .int .i64 0, .int .i64 0, .int .i64 0] 23)).drewN (k1 + k2 + k3 + k4)).alloc (.cells #[.int .u8 ((x : Int) % 4), .int .i64 ((x : Int) / 4 % 4096), .int .i64 ((x : Int) / 65536 % 16777216), .int .i64 ((x : Int) / 1099511627776 % 16777216)] 23)) := (below_drewN (((Below.refl _ _).alloc (Nat.le_refl _) _).alloc (by simp) _) _).alloc (by simp; omega) _
  refine (headCheck_any ((x : Int) % 4) ((x : Int) / 4 % 4096) ((x : Int) / 65536 % 16777216) ((x : Int) / 1099511627776 % 16777216) _ (hF.below hB0 hF.pos)).mono ?_
  rintro e w1 ⟨rfl, hb⟩
  have hz : w.heap.size + 2 < w1.heap.size := by have := hb.size; simp at this; omega
  have hB := hB0.trans (hb.mono (by simp; omega))
  have hF1 := Lib.hid (hF.below hB hF.pos)
  have e0 : w1.cell? ⟨w.heap.size, 0, none⟩ = some (.int .u64 (x : Int)) := (hb.cell (p := ⟨w.heap.size, 0, none⟩) (by simp; omega)).trans ((World.cell?_alloc_lt _ _ _ (by simp; omega)).trans (HC.out _))
  have b1 : Blk w1 (w.heap.size + 1) 23 #[.int .u8 0, .int .i64 0, .int .i64 0, .int .i64 0] := (((Blk.new_at (w.alloc _) _ _ _ (by simp)).drewN _).alloc _).below hb (by simp)
  have b2 : Blk w1 (w.heap.size + 1 + 1) 23 #[.int .u8 ((x : Int) % 4), .int .i64 ((x : Int) / 4 % 4096), .int .i64 ((x : Int) / 65536 % 16777216), .int .i64 ((x : Int) / 1099511627776 % 16777216)] := (Blk.new_at _ _ _ _ (by simp)).below hb (by simp)
  have c10 := b1.cell 0
  have c11 := b1.cell 1
  have c12 := b1.cell 2
  have c13 := b1.cell 3
  have g10 := b1.frozen 0
  have g11 := b1.frozen 1
  have g12 := b1.frozen 2
  have g13 := b1.frozen 3
  have c20 := b2.cell 0
  have c21 := b2.cell 1
  have c22 := b2.cell 2
  have c23 := b2.cell 3
  simp only [List.getElem?_toArray, List.getElem?_cons_zero, List.getElem?_cons_succ] at c10 c11 c12 c13 c20 c21 c22 c23
  clear b1 b2 hb hB0
  by_cases hok : okH ((x : Int) % 4) ((x : Int) / 4 % 4096) ((x : Int) / 65536 % 16777216) ((x : Int) / 1099511627776 % 16777216) = true
  · rw [chkH_yes hok]
    have Hok := Lib.hid hok
    clear hok
    go_wp2_with fail
    refine (of_any 2 14 2 (by omega) x hx ⟨w.heap.size, 0, none⟩ _ hF1.out e0).mono ?_
    rintro e w2 ⟨rfl, k5, rfl⟩
    by_cases h2 : ((x : Int) / 16384 % 4) = 0
    · have H : Hid (okD x = true) := Lib.hid (by simp [okD, Hok.out, h2])
      have h3 : (((x / 2 ^ 14 % 2 ^ 2 : Nat) : Int) != 0) = false := by simp; omega
      go_wp2_with fail
      refine bodyPost_ret (v := .tuple #[.agg #[.int .u8 ((x : Int) % 4), .int .i64 ((x : Int) / 4 % 4096), .int .i64 ((x : Int) / 65536 % 16777216), .int .i64 ((x : Int) / 1099511627776 % 16777216)], .int .i64 0]) (by simp [results, Tryd.results12, go_sem, c10, c11, c12, c13]) rfl ⟨by simp [dT, dY, dL, dS, decE, H.out], ?_⟩
      exact ((((below_drewN hB _).setCell (by simp) _).setCell (by simp) _).setCell (by simp) _).setCell (by simp) _
    · have H : Hid (okD x = false) := Lib.hid (by simp [okD, h2])
      have h3 : (((x / 2 ^ 14 % 2 ^ 2 : Nat) : Int) != 0) = true := by simp; omega
      go_wp2_with fail
      refine bodyPost_ret (v := .tuple #[.agg #[.int .u8 0, .int .i64 0, .int .i64 0, .int .i64 0], .int .i64 7]) (by simp [results, Tryd.results12, go_sem, c10, c11, c12, c13]) rfl ⟨by simp [dT, dY, dL, dS, decE, H.out], ?_⟩
      exact ((((below_drewN hB _).setCell (by simp) _).setCell (by simp) _).setCell (by simp) _).setCell (by simp) _
  · rw [chkH_no (by simpa using hok)]
    have H : Hid (okD x = false) := Lib.hid (by simp [okD]; simp at hok; simp [hok])
    clear hok
    go_wp2_with fail
    refine bodyPost_ret (v := .tuple #[.agg #[.int .u8 0, .int .i64 0, .int .i64 0, .int .i64 0], .int .i64 7]) (by simp [results, Tryd.results12, go_sem, c10, c11, c12, c13]) rfl ⟨by simp [dT, dY, dL, dS, decE, H.out], ?_⟩
    exact ((((hB).setCell (by simp) _).setCell (by simp) _).setCell (by simp) _).setCell (by simp) _
end Go.Proofs.YtmjkohjijoddaaaDoor
