/- The law TableBack: the walk. -/
import Derived.Test.YtehicgndccnopaaTableN
namespace Go.Proofs.Ytehicgndccnopaa
open Go.RowKit
set_option linter.unusedVariables false
set_option linter.unusedSimpArgs false

set_option maxRecDepth 100000 in
set_option maxHeartbeats 4000000 in
theorem tableBack_walk (W : World) (A : Option Addr) (len cap : Nat) (ts : List Ty) (h : TysIs W A len cap ts) (s : ByteArray) (hs : s.size ≤ maxLen) :
    Calls Try.prog 13 #[.slice A len cap, .string s] W fun e w' => e = .returned (.bool true) ∧ Below W.heap.size W w' := by
  have HH := Lib.hid h
  have hs' : s.size ≤ 9223372036854775807 := hs
  have hlen : len ≤ 9223372036854775807 := Nat.le_trans h.le h.mx
  clear h hs
  by_cases hl : 100 < len
  · go_enter Try.func13, Try.ntmps13
    go_wp2_with fail
    refine (alive06 _).mono ?_
    rintro e w1 ⟨rfl, hb⟩
    go_wp2_with fail
    go_ret
    exact ⟨rfl, hb⟩
  · by_cases hz : 4096 < s.size
    · go_enter Try.func13, Try.ntmps13
      go_wp2_with fail
      refine (alive06 _).mono ?_
      rintro e w1 ⟨rfl, hb⟩
      go_wp2_with fail
      go_ret
      exact ⟨rfl, hb⟩
    · by_cases hN : newE [] ts = 0
      · have hn64 : len ≤ 64 := by rw [← HH.out.len_]; exact newE_len hN
        obtain ⟨p1, p2, p3⟩ := read_put ts HH.out.ok hN
        have hsz : (strOfNums (putB ts)).size = 1 + 10 * len := by rw [strOfNums_size, putB_len, HH.out.len_]
        rw [HH.out.len_] at p2 p3
        have HN := Lib.hid hN
        have P1 := Lib.hid p1
        have P2 := Lib.hid p2
        have P3 := Lib.hid p3
        have SZ := Lib.hid hsz
        clear hN p1 p2 p3 hsz
        go_enter Try.func13, Try.ntmps13
        go_wp2_with fail
        refine (newT_ok _ A len cap ts HH.out.r HH.out.len_ HH.out.ok (by omega) HN.out).mono ?_
        rintro e w5 ⟨tb5, g5, v5, rfl, hI5, hg5, hb5⟩
        have I5 := Lib.hid hI5
        have B5 := Lib.hid hb5
        clear hI5 hg5 hb5
        go_wp2_with fail
        refine (put_bytes _ _ tb5 g5 v5 _ I5.out HH.out.ok).mono ?_
        rintro e w6 ⟨rfl, hb6⟩
        have B6 := Lib.hid (bnext B5.out hb6)
        clear hb6
        generalize strOfNums (putB ts) = S at *
        go_wp2_with fail
        refine (read_ok _ S (by rw [SZ.out]; omega) P1.out).mono ?_
        rw [P2.out, P3.out]
        rintro e w7 ⟨tb, g, v, rfl, hI7, hg7, hb7⟩
        have B7 := Lib.hid (bnext B6.out hb7)
        have I7 := Lib.hid hI7
        clear hI7 hg7 hb7
        go_wp2_with fail
        refine (allT_any _ _ tb g v _ I7.out).mono ?_
        rw [HH.out.len_]
        rintro e w3 ⟨v3, rfl, hown3, hb3⟩
        have B8 := Lib.hid (bnext B7.out hb3)
        have R3 := Lib.hid ((HH.out.r.below B8.out).more B8.out.size)
        obtain ⟨A3, c3, hv3, _⟩ := own_form hown3
        rw [hv3] at hown3 ⊢
        have Q3 := Lib.hid (Reads.of_own hown3)
        clear hown3 hv3 hb3
        go_wp2_with fail
        refine (sameT_any _ A3 A len c3 len cap _ _ Q3.out R3.out HH.out.len_ HH.out.len_ (by omega) (by omega)).mono ?_
        rintro e w4 ⟨rfl, hb4⟩
        rw [show decide (ts = ts) = true by simp]
        have B3 := Lib.hid (bnext B8.out hb4)
        clear hb4
        go_wp2_with fail
        cases hr : rdOk s
        · have HR := Lib.hid hr
          clear hr
          refine (read_no _ s (by omega) HR.out).mono ?_
          rintro e w1 ⟨rfl, hb1⟩
          have B4 := Lib.hid (bnext B3.out hb1)
          clear hb1
          go_wp2_with fail
          refine (alive06 _).mono ?_
          rintro e w9 ⟨rfl, hb9⟩
          have B9 := Lib.hid (bnext B4.out hb9)
          go_wp2_with fail
          go_ret
          exact ⟨rfl, B9.out⟩
        · have HR := Lib.hid hr
          have HP := Lib.hid (put_read s hr)
          clear hr
          refine (read_ok _ s (by omega) HR.out).mono ?_
          rintro e w1 ⟨tb1, g1, v1, rfl, hI1, hg1, hb1⟩
          have I1 := Lib.hid hI1
          have B4 := Lib.hid (bnext B3.out hb1)
          clear hI1 hg1 hb1
          go_wp2_with fail
          refine (put_bytes _ _ tb1 g1 v1 _ I1.out (rd_ok HR.out)).mono ?_
          rintro e w2 ⟨rfl, hb2⟩
          rw [HP.out]
          have B5 := Lib.hid (bnext B4.out hb2)
          have hS : (s.toList == s.toList) = true := by simp
          clear hb2
          go_wp2_with fail
          refine (alive06 _).mono ?_
          rintro e w9 ⟨rfl, hb9⟩
          have B9 := Lib.hid (bnext B5.out hb9)
          go_wp2_with fail
          go_ret
          exact ⟨rfl, B9.out⟩
      · have hne : (newE [] ts == 0) = false := by simpa using hN
        have HN := Lib.hid hN
        clear hN
        go_enter Try.func13, Try.ntmps13
        go_wp2_with fail
        refine (newT_no _ A len cap ts HH.out.r HH.out.len_ HH.out.ok (by omega) HN.out).mono ?_
        rintro e w5 ⟨rfl, hb5⟩
        have B3 := Lib.hid hb5
        clear hb5
        go_wp2_with fail
        cases hr : rdOk s
        · have HR := Lib.hid hr
          clear hr
          refine (read_no _ s (by omega) HR.out).mono ?_
          rintro e w1 ⟨rfl, hb1⟩
          have B4 := Lib.hid (bnext B3.out hb1)
          clear hb1
          go_wp2_with fail
          refine (alive06 _).mono ?_
          rintro e w9 ⟨rfl, hb9⟩
          have B9 := Lib.hid (bnext B4.out hb9)
          go_wp2_with fail
          go_ret
          exact ⟨rfl, B9.out⟩
        · have HR := Lib.hid hr
          have HP := Lib.hid (put_read s hr)
          clear hr
          refine (read_ok _ s (by omega) HR.out).mono ?_
          rintro e w1 ⟨tb1, g1, v1, rfl, hI1, hg1, hb1⟩
          have I1 := Lib.hid hI1
          have B4 := Lib.hid (bnext B3.out hb1)
          clear hI1 hg1 hb1
          go_wp2_with fail
          refine (put_bytes _ _ tb1 g1 v1 _ I1.out (rd_ok HR.out)).mono ?_
          rintro e w2 ⟨rfl, hb2⟩
          rw [HP.out]
          have B5 := Lib.hid (bnext B4.out hb2)
          have hS : (s.toList == s.toList) = true := by simp
          clear hb2
          go_wp2_with fail
          refine (alive06 _).mono ?_
          rintro e w9 ⟨rfl, hb9⟩
          have B9 := Lib.hid (bnext B5.out hb9)
          go_wp2_with fail
          go_ret
          exact ⟨rfl, B9.out⟩
end Go.Proofs.Ytehicgndccnopaa
