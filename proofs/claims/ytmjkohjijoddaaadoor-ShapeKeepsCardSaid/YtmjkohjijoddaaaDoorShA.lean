/- Shapes: Addr, Word, granules, Head. -/
import Derived.Test.YtmjkohjijoddaaaDoorHeadS
import Derived.Test.YtmjkohjijoddaaaDoorArenaB
import Derived.BigQuiet
namespace Go.Proofs.YtmjkohjijoddaaaDoor
open Go.RowKit
set_option linter.unusedVariables false
set_option linter.unusedSimpArgs false

def addrV (g : Int) : Int := if g < 0 then 0 else 1048576 + 2 * g
def wdV (x : Int) : Int := if 1048576 ≤ x ∧ x < 1114112 then x - 1048576 else 0
def wdB (x : Int) : Bool := decide (1048576 ≤ x ∧ x < 1114112)

theorem addr_any (w : World) (g : Int) (h : g ≤ 1099511627776) : Calls Tryd.prog 36 #[.int .i64 g] w fun e w' => e = .returned (.int .u64 (addrV g)) ∧ w = w' := by
  by_cases h0 : g < 0
  · have HV := Lib.hid (show addrV g = 0 by simp [addrV, h0])
    go_enter Tryd.func36, Tryd.ntmps36
    go_wp2
    go_ret
    exact ⟨ret_int HV.out.symm, rfl⟩
  · have HV := Lib.hid (show addrV g = 1048576 + 2 * g by simp [addrV, h0])
    have e1 : IntKind.u64.wrap g = g := by simp [IntKind.wrap, IntKind.signed, IntKind.bits]; omega
    have e2 : IntKind.u64.wrap (2 * g) = 2 * g := by simp [IntKind.wrap, IntKind.signed, IntKind.bits]; omega
    have e3 : IntKind.u64.wrap (1048576 + 2 * g) = 1048576 + 2 * g := by simp [IntKind.wrap, IntKind.signed, IntKind.bits]; omega
    go_enter Tryd.func36, Tryd.ntmps36
    go_wp2
    go_ret
    exact ⟨ret_int HV.out.symm, rfl⟩
theorem refAddr_any (w : World) (g : Int) (h : g ≤ 1099511627776) : Calls Tryd.prog 37 #[.int .i64 g] w fun e w' => e = .returned (.int .u64 (addrV g)) ∧ w = w' := by
  by_cases h0 : g < 0
  · have HV := Lib.hid (show addrV g = 0 by simp [addrV, h0])
    go_enter Tryd.func37, Tryd.ntmps37
    go_wp2
    go_ret
    exact ⟨ret_int HV.out.symm, rfl⟩
  · have HV := Lib.hid (show addrV g = 1048576 + 2 * g by simp [addrV, h0])
    have e1 : IntKind.u64.wrap g = g := by simp [IntKind.wrap, IntKind.signed, IntKind.bits]; omega
    have e2 : IntKind.u64.wrap (2 * g) = 2 * g := by simp [IntKind.wrap, IntKind.signed, IntKind.bits]; omega
    have e3 : IntKind.u64.wrap (1048576 + 2 * g) = 1048576 + 2 * g := by simp [IntKind.wrap, IntKind.signed, IntKind.bits]; omega
    go_enter Tryd.func37, Tryd.ntmps37
    go_wp2
    go_ret
    exact ⟨ret_int HV.out.symm, rfl⟩
theorem word_any (w : World) (x : Int) (h0 : 0 ≤ x) (h : x < 18446744073709551616) : Calls Tryd.prog 34 #[.int .u64 x] w fun e w' => e = .returned (.tuple #[.int .i64 (wdV x), .bool (wdB x)]) ∧ w = w' := by
  by_cases h1 : x < 1048576
  · have HV := Lib.hid (show wdV x = 0 ∧ wdB x = false by simp [wdV, wdB]; omega)
    go_enter Tryd.func34, Tryd.ntmps34
    go_wp2
    go_ret2
    rw [HV.out.1, HV.out.2]
    exact ⟨rfl, rfl⟩
  have e1 : IntKind.u64.wrap (x - 1048576) = x - 1048576 := by simp [IntKind.wrap, IntKind.signed, IntKind.bits]; omega
  by_cases h2 : x < 1114112
  · have HV := Lib.hid (show wdV x = x - 1048576 ∧ wdB x = true by simp [wdV, wdB]; omega)
    have e2 : IntKind.i64.wrap (x - 1048576) = x - 1048576 := by simp [IntKind.wrap, IntKind.signed, IntKind.bits]; omega
    go_enter Tryd.func34, Tryd.ntmps34
    go_wp2
    go_ret2
    rw [HV.out.1, HV.out.2]
    exact ⟨rfl, rfl⟩
  · have HV := Lib.hid (show wdV x = 0 ∧ wdB x = false by simp [wdV, wdB]; omega)
    go_enter Tryd.func34, Tryd.ntmps34
    go_wp2
    go_ret2
    rw [HV.out.1, HV.out.2]
    exact ⟨rfl, rfl⟩
theorem refWord_any (w : World) (x : Int) (h0 : 0 ≤ x) (h : x < 18446744073709551616) : Calls Tryd.prog 35 #[.int .u64 x] w fun e w' => e = .returned (.tuple #[.int .i64 (wdV x), .bool (wdB x)]) ∧ w = w' := by
  by_cases h1 : x < 1048576
  · have HV := Lib.hid (show wdV x = 0 ∧ wdB x = false by simp [wdV, wdB]; omega)
    go_enter Tryd.func35, Tryd.ntmps35
    go_wp2
    go_ret2
    rw [HV.out.1, HV.out.2]
    exact ⟨rfl, rfl⟩
  have e1 : IntKind.u64.wrap (x - 1048576) = x - 1048576 := by simp [IntKind.wrap, IntKind.signed, IntKind.bits]; omega
  by_cases h2 : x < 1114112
  · have HV := Lib.hid (show wdV x = x - 1048576 ∧ wdB x = true by simp [wdV, wdB]; omega)
    have e2 : IntKind.i64.wrap (x - 1048576) = x - 1048576 := by simp [IntKind.wrap, IntKind.signed, IntKind.bits]; omega
    go_enter Tryd.func35, Tryd.ntmps35
    go_wp2
    go_ret2
    rw [HV.out.1, HV.out.2]
    exact ⟨rfl, rfl⟩
  · have HV := Lib.hid (show wdV x = 0 ∧ wdB x = false by simp [wdV, wdB]; omega)
    go_enter Tryd.func35, Tryd.ntmps35
    go_wp2
    go_ret2
    rw [HV.out.1, HV.out.2]
    exact ⟨rfl, rfl⟩

/-- How many granules. -/
def grN (ws : List Int) : Int := (ws.length : Int) / 2

theorem granules_any (w : World) (bs br : Nat) (ws : List Int) (rs : List Value) (c : Nat) (h : IsAr w bs br ws rs c) :
    Calls Tryd.prog 51 #[.pointer (some ⟨bs, 0, none⟩)] w fun e w' => e = .returned (.int .i64 (grN ws)) ∧ w = w' := by
  have HI := Lib.hid h
  have hl := h.hi
  clear h
  go_enter Tryd.func51, Tryd.ntmps51
  go_wp2_with fail
  refine (len_any _ bs br ws rs c HI.out).mono ?_
  rintro e w' ⟨rfl, rfl⟩
  have e1 : ((ws.length : Int)).tdiv 2 = (ws.length : Int) / 2 := Int.tdiv_eq_ediv_of_nonneg (by omega)
  go_wp2_with fail
  go_ret
  exact ⟨ret_int (by unfold grN; first | rfl | omega), rfl⟩
end Go.Proofs.YtmjkohjijoddaaaDoor
