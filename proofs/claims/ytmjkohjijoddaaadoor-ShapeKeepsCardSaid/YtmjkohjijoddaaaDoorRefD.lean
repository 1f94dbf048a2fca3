/- The document's Refs of layer 5; the law KindRefs. -/
import Derived.Test.YtmjkohjijoddaaaDoorRefC
namespace Go.Proofs.YtmjkohjijoddaaaDoor
open Go.RowKit
set_option linter.unusedVariables false
set_option linter.unusedSimpArgs false

section
variable (k wd : Int) (mk : Nat) (n : Int) (w : World) (hk : 0 ≤ k ∧ k < 256) (hw : -9223372036854775808 ≤ wd ∧ wd ≤ 9223372036854775807) (hm : mk < 18446744073709551616)
include hk hw hm

set_option maxHeartbeats 1000000 in
theorem rrefs_ok (h : ofE k wd mk n = 0) : Calls Tryd.prog 43 #[.agg #[.int .u8 k, .int .i64 wd, .int .u64 (mk : Int)], .int .i64 n] w (GivesRow .i64 (refsL k wd mk (slotsV k wd n).toNat) 0 w) := by
  have HC := Lib.hid (rslots_any k wd mk n (w.alloc (.cells #[.int .u8 k, .int .i64 wd, .int .u64 (mk : Int)] 72)) hk hw hm)
  have HM := Lib.hid hm
  have b0 := Blk.new w 72 #[.int .u8 k, .int .i64 wd, .int .u64 (mk : Int)]
  clear hk hw hm
  obtain ⟨h1, h2, h3⟩ := ofE_facts h
  obtain ⟨s1, s2⟩ := slotsV_bd h
  have HE := Lib.hid h
  have HS := Lib.hid (show nS k wd mk n = slotsV k wd n by simp [nS, h])
  have HO := Lib.hid h1
  clear h1 h2 h3 h
  obtain ⟨i0, hi, hz0, hz1, hz2⟩ := info_parts Tryd.infoInt
  have HI := Lib.hid hi
  have Z0 := Lib.hid hz0
  have Z1 := Lib.hid hz1
  have Z2 := Lib.hid hz2
  clear hi hz0 hz1 hz2
  go_enter Tryd.func43, Tryd.ntmps43
  go_wp2_with fail
  refine HC.out.mono ?_
  rintro e w2 ⟨rfl, hb⟩
  rw [HE.out, HS.out]
  have hB2 := bnext (balloc (Below.refl _ w) _) hb
  have b2 := b0.nx hb
  have hz := b2.lt
  clear hb b0
  obtain ⟨N, hN⟩ := Int.eq_ofNat_of_zero_le s1
  rw [hN] at s2 ⊢
  have HN := Lib.hid hN
  clear hN s1
  go_wp2_with fail
  go_loopw [8, 9] (fun out i wr => ∃ c : Nat, c ≤ N ∧ i = .int .i64 (c : Int) ∧ wr.ownsRow (w.heap.size + 1) 3 1 out (refsL k wd mk c).length ((refsL k wd mk c).map (Value.int .i64)) ∧ Below (w.heap.size + 1) w2 wr) (fun _ i _ => N - (intOf i).toNat)
  case atStart => exact ⟨0, by omega, rfl, by rw [refsL_zero]; exact World.ownsRow_nil _ _ _ _, Below.refl _ _⟩
  case round =>
    obtain ⟨c, hc, rfl, hown, hbl⟩ := hrel
    by_cases hlt : c < N
    · have b3 := b2.below hbl (by omega)
      obtain ⟨c0, c1, c2⟩ := b3.c3
      have OWN := Lib.hid hown
      have BL := Lib.hid hbl
      have hle := refsL_le k wd mk c
      clear hown hbl
      go_wp2_with fail
      refine (is_any k wd mk (c : Int) HM.out HO.out (by omega) (by omega) _).mono ?_
      rintro e w3 ⟨rfl, hb⟩
      have OWN3 := Lib.hid (own_nx OWN.out hb)
      have BL3 := Lib.hid (BL.out.trans (hb.mono (by have := BL.out.size; omega)))
      have hz3 : w.heap.size + 1 ≤ w3.heap.size := by have := BL3.out.size; omega
      clear hb OWN BL c0 c1 c2 b3
      cases hr : refV k wd mk (c : Int)
      · have HR := Lib.hid (refsL_no hr)
        clear hr
        go_wp2_with fail
        go_roundw
        case rel => exact ⟨c + 1, by omega, by go_num, by rw [HR.out]; exact OWN3.out, BL3.out⟩
        case measure => simp [intOf]; omega
      · have HR := Lib.hid (refsL_yes hr)
        clear hr
        go_wp2_with (at_builtin; refine wpList_append_own _ rfl _ _ 75 rfl (w.heap.size + 1) 3 i0 (.int .i64 0) 1 8 Tryd.underlying75 HI.out Z0.out Z1.out Z2.out rfl (by decide) _ _ _ rfl (OWN3.out.alloc _) ⟨w3.heap.size, 0, none⟩ 1 1 [.int .i64 (c : Int)] rfl rfl ?c1 ?c2 ?c3 ?c4 ?c5 ?_)
        case c1 => exact cell_one_new _ _ _
        case c2 => simp [Value.oneCell']
        case c3 => unfold maxLen; omega
        case c4 => omega
        case c5 => simp; omega
        intro v' w4 hown' hgrow _
        have BL4 := Lib.hid ((BL3.out.alloc hz3 _).grown hgrow (by simp; omega) (fun k e => (OWN3.out.lt k e).1))
        have OWN4 := Lib.hid hown'
        clear hown' hgrow
        go_wp2_with fail
        go_roundw
        case rel => exact ⟨c + 1, by omega, by go_num, by rw [HR.out]; simpa using OWN4.out, BL4.out⟩
        case measure => simp [intOf]; omega
    · obtain rfl : c = N := by omega
      obtain ⟨A, cc, hv, hcc⟩ := own_form hown
      have HV := Lib.hid hv
      have OWN := Lib.hid hown
      have BL := Lib.hid hbl
      clear hv hown hbl
      go_wp2_with fail
      go_ret2
      rw [show (slotsV k wd n).toNat = c by rw [HN.out]; simp]
      refine ⟨A, _, cc, by rw [HV.out]; rfl, Reads.of_own (by have h := OWN.out; rw [HV.out] at h; exact h), hcc, hB2.trans (BL.out.mono (by omega))⟩
end

/-- What Refs tells, error or not. -/
def refsR (k wd : Int) (mk : Nat) (n : Int) : List Int := if ofE k wd mk n = 0 then refsL k wd mk (slotsV k wd n).toNat else []
theorem refsR_le (k wd : Int) (mk : Nat) (n : Int) : (refsR k wd mk n).length ≤ 65536 := by
  unfold refsR
  split
  · rename_i h
    have := slotsV_bd h
    have := refsL_le k wd mk (slotsV k wd n).toNat
    omega
  · simp
section
variable (k wd : Int) (mk : Nat) (n : Int) (w : World) (hk : 0 ≤ k ∧ k < 256) (hw : -9223372036854775808 ≤ wd ∧ wd ≤ 9223372036854775807) (hm : mk < 18446744073709551616)
include hk hw hm
theorem krefs_any : Calls Tryd.prog 72 #[.agg #[.int .u8 k, .int .i64 wd, .int .u64 (mk : Int)], .int .i64 n] w (GivesRow .i64 (refsR k wd mk n) (ofE k wd mk n) w) := by
  by_cases h : ofE k wd mk n = 0
  · have := krefs_ok k wd mk n w hk hw hm h
    rw [h, refsR, if_pos h]
    exact this
  · have := krefs_no k wd mk n w hk hw hm h
    rw [refsR, if_neg h]
    exact this
theorem rrefs_any : Calls Tryd.prog 43 #[.agg #[.int .u8 k, .int .i64 wd, .int .u64 (mk : Int)], .int .i64 n] w (GivesRow .i64 (refsR k wd mk n) (ofE k wd mk n) w) := by
  by_cases h : ofE k wd mk n = 0
  · have := rrefs_ok k wd mk n w hk hw hm h
    rw [h, refsR, if_pos h]
    exact this
  · have := rrefs_no k wd mk n w hk hw hm h
    rw [refsR, if_neg h]
    exact this
end
end Go.Proofs.YtmjkohjijoddaaaDoor
