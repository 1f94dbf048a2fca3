/- The document's is, Ref, Refs of layer 5; kind.Refs of what may not be. -/
import Derived.Test.YtmjkohjijoddaaaDoorRefB
namespace Go.Proofs.YtmjkohjijoddaaaDoor
open Go.RowKit
set_option linter.unusedVariables false
set_option linter.unusedSimpArgs false

theorem okT_raw {wd : Int} {mk : Nat} (h : okT 4 wd mk = true) : mk = 0 := by
  have h1 := (okT_facts h).2.2.2 (by omega)
  subst h1
  simp [okT] at h
  omega

set_option maxHeartbeats 1000000 in
theorem is_any (k wd : Int) (mk : Nat) (slot : Int) (hm : mk < 18446744073709551616) (ho : okT k wd mk = true) (h0 : 0 ≤ slot) (h1 : slot ≤ 262144) (w : World) :
    Calls Tryd.prog 65 #[.agg #[.int .u8 k, .int .i64 wd, .int .u64 (mk : Int)], .int .i64 slot] w fun e w' => e = .returned (.bool (refV k wd mk slot)) ∧ Below w.heap.size w w' := by
  have hu : IntKind.u64.wrap slot = slot := by simp [IntKind.wrap, IntKind.signed, IntKind.bits]; omega
  obtain ⟨g1, g2, g3, g4⟩ := okT_facts ho
  have HR := Lib.hid (@okT_raw wd mk)
  have HO := Lib.hid ho
  clear g2 g4 ho
  rcases g1 with rfl | rfl | rfl | rfl
  · have H := Lib.hid (bit_tmod hm slot.toNat)
    clear g3
    go_enter Tryd.func65, Tryd.ntmps65
    go_wp2
    go_ret
    exact ⟨ret_bool (by rw [H.out]; simp [refV]), (Below.refl _ _).alloc (Nat.le_refl _) _⟩
  · clear g3
    go_enter Tryd.func65, Tryd.ntmps65
    go_wp2
    go_ret
    exact ⟨ret_bool (by simp [refV]), (Below.refl _ _).alloc (Nat.le_refl _) _⟩
  · obtain ⟨h4, h5⟩ := g3 rfl
    clear g3
    have l0 : 0 ≤ slot % wd := Int.emod_nonneg _ (by omega)
    have l1 : slot % wd < wd := Int.emod_lt_of_pos _ (by omega)
    have e1 : slot.tmod wd = slot % wd := Int.tmod_eq_emod_of_nonneg h0
    have hv : IntKind.u64.wrap (slot % wd) = slot % wd := by generalize slot % wd = z at *; simp [IntKind.wrap, IntKind.signed, IntKind.bits]; omega
    have e2 : ((slot % wd).toNat : Int) = slot % wd := by omega
    have hb := bit_tmod hm (slot % wd).toNat
    have hb1 := hb
    rw [Nat.min_eq_left (by omega)] at hb1
    have H := Lib.hid hb
    have H1 := Lib.hid hb1
    clear hb hb1 e2
    have hwd : (wd == 0) = false := by simp; omega
    go_enter Tryd.func65, Tryd.ntmps65
    go_wp2_with fail
    go_quiet (fail)
    go_wp2
    go_ret
    refine ⟨ret_bool ?_, below_drewN ((Below.refl _ _).alloc (Nat.le_refl _) _) _⟩
    first | (rw [H.out]; simp [refV]) | (rw [H1.out]; simp [refV])
  · have e := HR.out HO.out
    subst e
    clear g3
    go_enter Tryd.func65, Tryd.ntmps65
    go_wp2
    go_ret
    exact ⟨ret_bool (by simp [refV, bitV]), (Below.refl _ _).alloc (Nat.le_refl _) _⟩

section
variable (k wd : Int) (mk : Nat) (n : Int) (w : World) (hk : 0 ≤ k ∧ k < 256) (hw : -9223372036854775808 ≤ wd ∧ wd ≤ 9223372036854775807) (hm : mk < 18446744073709551616)
include hk hw hm

set_option maxHeartbeats 1000000 in
theorem krefs_no (h : ofE k wd mk n ≠ 0) : Calls Tryd.prog 72 #[.agg #[.int .u8 k, .int .i64 wd, .int .u64 (mk : Int)], .int .i64 n] w (GivesRow .i64 [] (ofE k wd mk n) w) := by
  have HC := Lib.hid (of_no k wd mk n (w.alloc (.cells #[.int .u8 k, .int .i64 wd, .int .u64 (mk : Int)] 72)) hk hw hm h)
  have hne : (ofE k wd mk n != 0) = true := by simpa using h
  clear hk hw hm h
  go_enter Tryd.func72, Tryd.ntmps72
  go_wp2_with fail
  refine HC.out.mono ?_
  rintro e w1 ⟨rfl, hb⟩
  have hB := bnext (balloc (Below.refl _ w) _) hb
  clear hb
  go_wp2_with fail
  go_ret2
  exact ⟨none, 0, 0, rfl, Reads.none_, Nat.le_refl _, balloc hB _⟩

set_option maxHeartbeats 1000000 in
theorem rrefs_no (h : ofE k wd mk n ≠ 0) : Calls Tryd.prog 43 #[.agg #[.int .u8 k, .int .i64 wd, .int .u64 (mk : Int)], .int .i64 n] w (GivesRow .i64 [] (ofE k wd mk n) w) := by
  have HC := Lib.hid (rslots_any k wd mk n (w.alloc (.cells #[.int .u8 k, .int .i64 wd, .int .u64 (mk : Int)] 72)) hk hw hm)
  have hne : (ofE k wd mk n != 0) = true := by simpa using h
  clear hk hw hm h
  go_enter Tryd.func43, Tryd.ntmps43
  go_wp2_with fail
  refine HC.out.mono ?_
  rintro e w1 ⟨rfl, hb⟩
  have hB := bnext (balloc (Below.refl _ w) _) hb
  clear hb
  go_wp2_with fail
  go_ret2
  exact ⟨none, 0, 0, rfl, Reads.none_, Nat.le_refl _, hB⟩
end
end Go.Proofs.YtmjkohjijoddaaaDoor
