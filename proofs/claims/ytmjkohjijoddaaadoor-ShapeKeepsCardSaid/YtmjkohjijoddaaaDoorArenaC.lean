/- Arenas: Words. -/
import Derived.Test.YtmjkohjijoddaaaDoorArenaB
namespace Go.Proofs.YtmjkohjijoddaaaDoor
open Go.RowKit
set_option linter.unusedVariables false
set_option linter.unusedSimpArgs false

/-- Some words of an arena. -/
def woL (ws : List Int) (i n : Int) : List Int := if hasE ws.length i n = 0 then (ws.drop i.toNat).take n.toNat else []
theorem woL_length {ws : List Int} {j m : Nat} (h : hasE ws.length (j : Int) (m : Int) = 0) : (woL ws (j : Int) (m : Int)).length = m := by
  have := hasE_yes h
  simp [woL, h]
  omega

def GivesWords (zs : List Int) (err : Int) (w : World) (e : Ending) (w' : World) : Prop :=
  ∃ v, e = .returned (.tuple #[v, .int .i64 err]) ∧ w'.ownsRow w.heap.size 24 1 v zs.length (zs.map (Value.int .u64)) ∧ Below w.heap.size w w'

section
variable (w : World) (bs br : Nat) (ws : List Int) (rs : List Value) (c : Nat) (h : IsAr w bs br ws rs c)
include h

theorem IsAr.part {j m : Nat} (hj : j + m ≤ ws.length) : Reads w w.heap.size 1 (some ⟨br, j, none⟩) m (((ws.drop j).take m).map (Value.int .u64)) :=
  ⟨by simp; omega, fun hm => ⟨_, rfl, h.r.lt, fun i u hu => by
    have e : (⟨br, j, none⟩ : Addr).add i = ⟨br, j + i, none⟩ := by unfold Addr.add; split <;> simp_all
    have hi : i < m := by have := (List.getElem?_eq_some_iff.1 hu).1; simp at this; omega
    rw [e, h.r.cell (j + i)]
    rw [← hu]
    simp [List.getElem?_take, hi, List.getElem?_drop, List.getElem?_append, show j + i < ws.length by omega]⟩⟩

set_option maxHeartbeats 1000000 in
theorem words_any (i n : Int) (i0 : -9223372036854775808 ≤ i) (i1 : i ≤ 9223372036854775807) (n0 : -9223372036854775808 ≤ n) (n1 : n ≤ 9223372036854775807) :
    Calls Tryd.prog 53 #[.pointer (some ⟨bs, 0, none⟩), .int .i64 i, .int .i64 n] w (GivesWords (woL ws i n) (hasE ws.length i n) w) := by
  have HC := Lib.hid (has_any w bs br ws rs c h i n i0 i1 n0 n1)
  by_cases hh : hasE ws.length i n = 0
  · obtain ⟨h1, h4, h2, h3⟩ := hasE_yes hh
    obtain ⟨j, rfl⟩ := Int.eq_ofNat_of_zero_le h1
    obtain ⟨m, rfl⟩ := Int.eq_ofNat_of_zero_le h4
    have HL := Lib.hid (woL_length hh)
    have HV := Lib.hid (show woL ws (j : Int) (m : Int) = (ws.drop j).take m by simp [woL, hh])
    have HH := Lib.hid hh
    have hjm : j + m ≤ ws.length := by omega
    have hlen := h.hi
    have HP := Lib.hid (h.part (j := j) (m := m) w bs br ws rs c hjm)
    have HQ := Lib.hid (h.part (j := 0) (m := 0) w bs br ws rs c (by omega))
    obtain ⟨c0, c1⟩ := h.s.c2
    clear hh h i0 i1 n0 n1 h2 h3
    have e1 : ((j : Int) + (m : Int)).toNat = j + m := by omega
    by_cases hj : j = ws.length + rs.length
    · obtain rfl : m = 0 := by omega
      have hj' : ws.length + rs.length = j := hj.symm
      rw [hj'] at c0
      have HJ := Lib.hid hj
      have hjb : j ≤ 65536 := by omega
      clear hj hj' hjm
      go_enter Tryd.func53, Tryd.ntmps53
      go_wp2_with fail
      refine HC.out.mono ?_
      rintro e w' ⟨rfl, rfl⟩
      rw [HH.out]
      go_wp2_with fail
      refine (clone_any _ ⟨br, 0, none⟩ 0 0 [] (by simpa using HQ.out) (by omega)).mono ?_
      rintro e w1 ⟨v, rfl, hown, hb⟩
      go_wp2_with fail
      go_ret2
      have hz : woL ws (j : Int) ((0 : Nat) : Int) = [] := by rw [HV.out]; simp
      rw [hz, HH.out]
      exact ⟨v, rfl, hown, hb⟩
    · have hj2 : j < ws.length + rs.length := by omega
      have hj3 : ¬ ws.length + rs.length = j := by omega
      generalize hcp : ws.length + rs.length = CP at *
      have HCP := Lib.hid hcp
      have hjcp : (j : Int) + (m : Int) ≤ (CP : Int) := by omega
      clear hcp
      generalize hLw : ws.length = L at *
      have HLW := Lib.hid hLw
      clear hLw hj
      go_enter Tryd.func53, Tryd.ntmps53
      go_wp2_with fail
      refine HC.out.mono ?_
      rintro e w' ⟨rfl, rfl⟩
      rw [HH.out]
      go_wp2_with fail
      refine (clone_any _ ⟨br, j, none⟩ m (CP - j) _ HP.out (by omega)).mono ?_
      rintro e w1 ⟨v, rfl, hown, hb⟩
      go_wp2_with fail
      go_ret2
      have hl := HL.out
      rw [HH.out]
      refine ⟨v, rfl, ?_, hb⟩
      rw [hl, HV.out]
      exact hown
  · have HV := Lib.hid (show woL ws i n = [] by simp [woL, hh])
    have HH := Lib.hid (hasE_no hh)
    clear hh h i0 i1 n0 n1
    go_enter Tryd.func53, Tryd.ntmps53
    go_wp2_with fail
    refine HC.out.mono ?_
    rintro e w' ⟨rfl, rfl⟩
    rw [HH.out]
    go_wp2_with fail
    go_ret2
    rw [HV.out, HH.out]
    exact ⟨_, rfl, World.ownsRow_nil _ _ _ _, Below.refl _ _⟩
end
end Go.Proofs.YtmjkohjijoddaaaDoor
