/- Layer 6: Read by case; the law TableCodes. -/
import Derived.Test.YtehicgndccnopaaTableL
import Derived.Test.YtehicgndccnopaaRefR
import Derived.Test.YtehicgndccnopaaRefP
import Derived.Test.YtehicgndccnopaaRefH
namespace Go.Proofs.Ytehicgndccnopaa
open Go.RowKit
set_option linter.unusedVariables false
set_option linter.unusedSimpArgs false

theorem read_ok (w : World) (s : ByteArray) (hs : s.size ≤ 100000) (h : rdOk s = true) : Calls Try.prog 49 #[.string s] w (GivesTbE (tysAt s (byt s 0)) w) :=
  (read_any w s hs).mono fun _ _ hg => by
    rcases hg with ⟨h1, _⟩ | ⟨_, hg⟩
    · rw [h] at h1; cases h1
    · exact hg
theorem read_no (w : World) (s : ByteArray) (hs : s.size ≤ 100000) (h : rdOk s = false) : Calls Try.prog 49 #[.string s] w fun e w' => e = .returned (.tuple #[.pointer none, .int .i64 7]) ∧ Below w.heap.size w w' :=
  (read_any w s hs).mono fun _ _ hg => by
    rcases hg with ⟨_, hg⟩ | ⟨h1, _⟩
    · exact hg
    · rw [h] at h1; cases h1
/-- A list of types and an error. -/
def GivesTysE (ts : List Ty) (err : Int) (w : World) (e : Ending) (w' : World) : Prop :=
  ∃ A n c, e = .returned (.tuple #[.slice A n c, .int .i64 err]) ∧ Reads w' w'.heap.size 3 A n (ts.flatMap tyC) ∧ ts.length = n ∧ n ≤ c ∧ Below w.heap.size w w'
theorem rread_ok (w : World) (s : ByteArray) (hs : s.size ≤ 100000) (h : rdOk s = true) : Calls Try.prog 50 #[.string s] w (GivesTysE (tysAt s (byt s 0)) 0 w) :=
  (rread_any w s hs).mono fun _ _ hg => by
    obtain ⟨A, n, c, rfl, h1, h2, h3, h4⟩ := hg
    rw [h] at h1 h2
    exact ⟨A, n, c, by rw [h]; rfl, h1, h2, h3, h4⟩
theorem rread_no (w : World) (s : ByteArray) (hs : s.size ≤ 100000) (h : rdOk s = false) : Calls Try.prog 50 #[.string s] w (GivesTysE [] 7 w) :=
  (rread_any w s hs).mono fun _ _ hg => by
    obtain ⟨A, n, c, rfl, h1, h2, h3, h4⟩ := hg
    rw [h] at h1 h2
    exact ⟨A, n, c, by rw [h]; rfl, h1, h2, h3, h4⟩
theorem newE_len {ts : List Ty} (h : newE [] ts = 0) : ts.length ≤ 64 := by
  rcases ((newE_zero _ _).1 h).2 with rfl | h
  · simp
  · simpa using h
theorem rd_len {s : ByteArray} (h : rdOk s = true) : (tysAt s (byt s 0)).length ≤ 64 := by
  simp [rdOk] at h
  exact newE_len h.2
theorem rd_ok {s : ByteArray} (h : rdOk s = true) : ∀ t ∈ tysAt s (byt s 0), OkW t := by
  intro t ht
  simp [tysAt] at ht
  obtain ⟨i, _, rfl⟩ := ht
  exact tyAt_ok s i

set_option maxRecDepth 100000 in
set_option maxHeartbeats 4000000 in
theorem tableCodes_walk (W : World) (A : Option Addr) (len cap : Nat) (ts : List Ty) (h : TysIs W A len cap ts) (s : ByteArray) (hs : s.size ≤ maxLen) :
    Calls Try.prog 12 #[.slice A len cap, .string s] W fun e w' => e = .returned (.bool true) ∧ Below W.heap.size W w' := by
  have HH := Lib.hid h
  have hs' : s.size ≤ 9223372036854775807 := hs
  have hlen : len ≤ 9223372036854775807 := Nat.le_trans h.le h.mx
  clear h hs
  by_cases hl : 100 < len
  · go_enter Try.func12, Try.ntmps12
    go_wp2_with fail
    refine (alive06 _).mono ?_
    rintro e w1 ⟨rfl, hb⟩
    go_wp2_with fail
    go_ret
    exact ⟨rfl, hb⟩
  · by_cases hz : 4096 < s.size
    · go_enter Try.func12, Try.ntmps12
      go_wp2_with fail
      refine (alive06 _).mono ?_
      rintro e w1 ⟨rfl, hb⟩
      go_wp2_with fail
      go_ret
      exact ⟨rfl, hb⟩
    · cases hr : rdOk s
      · have HR := Lib.hid hr
        clear hr
        go_enter Try.func12, Try.ntmps12
        go_wp2_with fail
        refine (read_no _ s (by omega) HR.out).mono ?_
        rintro e w1 ⟨rfl, hb1⟩
        go_wp2_with fail
        refine (rread_no _ s (by omega) HR.out).mono ?_
        rintro e w2 ⟨A2, n2, c2, rfl, hr2, hn2, hc2, hb2⟩
        have B2 := Lib.hid (bnext hb1 hb2)
        have R2 := Lib.hid hr2
        simp at hn2
        subst hn2
        clear hb1 hb2 hr2
        go_wp2_with fail
        refine (allT_nil _).mono ?_
        rintro e w' ⟨rfl, rfl⟩
        go_wp2_with fail
        refine (sameT_any _ none A2 0 0 0 c2 [] [] Reads.none_ R2.out rfl rfl (by omega) (by omega)).mono ?_
        rintro e w3 ⟨rfl, hb3⟩
        rw [show decide (([] : List Ty) = []) = true by decide]
        have B3 := Lib.hid (bnext B2.out hb3)
        clear hb3
        have T3 := Lib.hid ((HH.out.r.below B3.out).more B3.out.size)
        by_cases hN : newE [] ts = 0
        · have hn64' : len ≤ 64 := by rw [← HH.out.len_]; exact newE_len hN
          have HN := Lib.hid hN
          clear hN
          go_wp2_with fail
          refine (newT_ok _ A len cap ts T3.out HH.out.len_ HH.out.ok (by omega) HN.out).mono ?_
          rintro e w5 ⟨tb5, g5, v5, rfl, hI5, hg5, hb5⟩
          have I5 := Lib.hid hI5
          have B5 := Lib.hid (bnext B3.out hb5)
          clear hI5 hg5 hb5
          go_wp2_with fail
          refine (put_bytes _ _ tb5 g5 v5 _ I5.out HH.out.ok).mono ?_
          rintro e w6 ⟨rfl, hb6⟩
          have B6 := Lib.hid (bnext B5.out hb6)
          have T6 := Lib.hid ((HH.out.r.below B6.out).more B6.out.size)
          clear hb6
          go_wp2_with fail
          refine (rput_bytes _ A len cap ts T6.out HH.out.len_ HH.out.ok hn64').mono ?_
          rintro e w7 ⟨rfl, hb7⟩
          have B7 := Lib.hid (bnext B6.out hb7)
          clear hb7
          generalize strOfNums (putB ts) = S
          have hS : (S.toList == S.toList) = true := by simp
          go_wp2_with fail
          refine (alive06 _).mono ?_
          rintro e w8 ⟨rfl, hb8⟩
          have B8 := Lib.hid (bnext B7.out hb8)
          go_wp2_with fail
          go_ret
          exact ⟨rfl, B8.out⟩
        · have hne : (newE [] ts != 0) = true := by simpa using hN
          have HN := Lib.hid hN
          clear hN
          go_wp2_with fail
          refine (newT_no _ A len cap ts T3.out HH.out.len_ HH.out.ok (by omega) HN.out).mono ?_
          rintro e w5 ⟨rfl, hb5⟩
          have B5 := Lib.hid (bnext B3.out hb5)
          clear hb5
          go_wp2_with fail
          refine (alive06 _).mono ?_
          rintro e w8 ⟨rfl, hb8⟩
          have B8 := Lib.hid (bnext B5.out hb8)
          go_wp2_with fail
          go_ret
          exact ⟨rfl, B8.out⟩
      · have HR := Lib.hid hr
        clear hr
        go_enter Try.func12, Try.ntmps12
        go_wp2_with fail
        refine (read_ok _ s (by omega) HR.out).mono ?_
        rintro e w1 ⟨tb, g, v, rfl, hI1, hg1, hb1⟩
        have I1 := Lib.hid hI1
        have B1 := Lib.hid hb1
        clear hI1 hg1 hb1
        go_wp2_with fail
        refine (rread_ok _ s (by omega) HR.out).mono ?_
        rintro e w2 ⟨A2, n2, c2, rfl, hr2, hn2, hc2, hb2⟩
        have B2 := Lib.hid (bnext B1.out hb2)
        have I2 := Lib.hid (I1.out.nx hb2)
        have R2 := Lib.hid hr2
        have N2 := Lib.hid hn2
        have hn64 : n2 ≤ 64 := by rw [← hn2]; exact rd_len HR.out
        clear hb2 hr2 hn2
        go_wp2_with fail
        refine (allT_any _ _ tb g v _ I2.out).mono ?_
        rintro e w3 ⟨v3, rfl, hown3, hb3⟩
        have B3 := Lib.hid (bnext B2.out hb3)
        have R3 := Lib.hid ((R2.out.below hb3).more hb3.size)
        obtain ⟨A3, c3, hv3, _⟩ := own_form hown3
        rw [hv3] at hown3 ⊢
        rw [N2.out] at hown3 ⊢
        have Q3 := Lib.hid (Reads.of_own hown3)
        clear hown3 hv3 hb3
        go_wp2_with fail
        refine (sameT_any _ A3 A2 n2 c3 n2 c2 _ _ Q3.out R3.out N2.out N2.out (by omega) (by omega)).mono ?_
        rintro e w4 ⟨rfl, hb4⟩
        rw [show decide (tysAt s (byt s 0) = tysAt s (byt s 0)) = true by simp]
        have B3 := Lib.hid (bnext B3.out hb4)
        clear hb4
        have T3 := Lib.hid ((HH.out.r.below B3.out).more B3.out.size)
        by_cases hN : newE [] ts = 0
        · have hn64' : len ≤ 64 := by rw [← HH.out.len_]; exact newE_len hN
          have HN := Lib.hid hN
          clear hN
          go_wp2_with fail
          refine (newT_ok _ A len cap ts T3.out HH.out.len_ HH.out.ok (by omega) HN.out).mono ?_
          rintro e w5 ⟨tb5, g5, v5, rfl, hI5, hg5, hb5⟩
          have I5 := Lib.hid hI5
          have B5 := Lib.hid (bnext B3.out hb5)
          clear hI5 hg5 hb5
          go_wp2_with fail
          refine (put_bytes _ _ tb5 g5 v5 _ I5.out HH.out.ok).mono ?_
          rintro e w6 ⟨rfl, hb6⟩
          have B6 := Lib.hid (bnext B5.out hb6)
          have T6 := Lib.hid ((HH.out.r.below B6.out).more B6.out.size)
          clear hb6
          go_wp2_with fail
          refine (rput_bytes _ A len cap ts T6.out HH.out.len_ HH.out.ok hn64').mono ?_
          rintro e w7 ⟨rfl, hb7⟩
          have B7 := Lib.hid (bnext B6.out hb7)
          clear hb7
          generalize strOfNums (putB ts) = S
          have hS : (S.toList == S.toList) = true := by simp
          go_wp2_with fail
          refine (alive06 _).mono ?_
          rintro e w8 ⟨rfl, hb8⟩
          have B8 := Lib.hid (bnext B7.out hb8)
          go_wp2_with fail
          go_ret
          exact ⟨rfl, B8.out⟩
        · have hne : (newE [] ts != 0) = true := by simpa using hN
          have HN := Lib.hid hN
          clear hN
          go_wp2_with fail
          refine (newT_no _ A len cap ts T3.out HH.out.len_ HH.out.ok (by omega) HN.out).mono ?_
          rintro e w5 ⟨rfl, hb5⟩
          have B5 := Lib.hid (bnext B3.out hb5)
          clear hb5
          go_wp2_with fail
          refine (alive06 _).mono ?_
          rintro e w8 ⟨rfl, hb8⟩
          have B8 := Lib.hid (bnext B5.out hb8)
          go_wp2_with fail
          go_ret
          exact ⟨rfl, B8.out⟩
end Go.Proofs.Ytehicgndccnopaa
