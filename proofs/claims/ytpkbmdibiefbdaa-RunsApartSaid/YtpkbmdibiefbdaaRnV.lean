/- Runs: the chapter's example. -/
import Derived.Test.YtpkbmdibiefbdaaRnU
namespace Go.Proofs.Ytpkbmdibiefbdaa
open Go.RowKit
set_option linter.unusedVariables false
set_option linter.unusedSimpArgs false

def L1s : List Rn := [(4, 2)]
def L2s : List Rn := [(4, 2), (8, 2)]
def L3s : List Rn := [(4, 6)]
def L4s : List Rn := [(4, 1), (8, 2)]
theorem aptL1 : Apt L1s := ⟨fun r hr => by simp [L1s] at hr; subst hr; decide, by simp [L1s]⟩
theorem aptL2 : Apt L2s := ⟨fun r hr => by simp [L2s] at hr; rcases hr with rfl | rfl <;> decide, by simp [L2s]⟩
theorem aptL3 : Apt L3s := ⟨fun r hr => by simp [L3s] at hr; subst hr; decide, by simp [L3s]⟩
theorem aptL4 : Apt L4s := ⟨fun r hr => by simp [L4s] at hr; rcases hr with rfl | rfl <;> decide, by simp [L4s]⟩
theorem memL1 (i : Int) : (memR [] i || inR (4, 2) i) = memR L1s i := by simp [L1s, memR_cons, memR_nil]
theorem memL2 (i : Int) : (memR L1s i || inR (8, 2) i) = memR L2s i := by simp [L1s, L2s, memR_cons, memR_nil]
theorem memL3 (i : Int) : (memR L2s i || inR (6, 2) i) = memR L3s i := by
  rw [Bool.eq_iff_iff]
  simp only [L2s, L3s, memR_cons, memR_nil, Bool.or_false, Bool.or_eq_true, inR_iff]
  omega
theorem memL4 (i : Int) : (memR L3s i && !inR (5, 3) i) = memR L4s i := by
  rw [Bool.eq_iff_iff]
  simp only [L3s, L4s, memR_cons, memR_nil, Bool.or_false, Bool.or_eq_true, Bool.and_eq_true, Bool.not_eq_true', ← Bool.not_eq_true, inR_iff]
  omega
theorem rF1 : addE [] (4, 2) = 0 ∧ addE L1s (8, 2) = 0 ∧ addE L2s (6, 2) = 0 ∧ cutE L3s (5, 3) = 0 ∧ addE L4s (0, 5) = 9 ∧ cutE L4s (4, 2) = 3 ∧ sumR L4s = 3 := by decide

set_option maxRecDepth 100000 in
set_option maxHeartbeats 8000000 in
theorem alive04 (w : World) : Calls Try.prog 6 #[] w fun e w' => e = .returned (.bool true) ∧ Below w.heap.size w w' := by
  have Q1 := Lib.hid rF1.1
  have Q2 := Lib.hid rF1.2.1
  have Q3 := Lib.hid rF1.2.2.1
  have Q4 := Lib.hid rF1.2.2.2.1
  have Q5 := Lib.hid rF1.2.2.2.2.1
  have Q6 := Lib.hid rF1.2.2.2.2.2.1
  have Q7 := Lib.hid rF1.2.2.2.2.2.2
  go_enter Try.func6, Try.ntmps6
  go_wp2_with fail
  refine (rnew_set w).mono ?_
  rintro e w1 ⟨rfl, hS, hb⟩
  obtain ⟨sb, hsb⟩ : ∃ sb, w.heap.size + 1 = sb := ⟨_, rfl⟩
  rw [hsb] at hS
  rw [hsb]
  have S1 := Lib.hid hS
  have B1 := Lib.hid (KpR.of_below hb (Nat.le_refl _))
  clear hS hb hsb
  go_wp2_with fail
  refine (add_any w1 w.heap.size sb [] S1.out B1.out.2.1 4 2).mono ?_
  rintro e w2 ⟨h1, _, h3, hk⟩
  rw [Q1.out] at h1
  subst h1
  obtain ⟨r1, hS, hm, _⟩ := h3 Q1.out
  obtain rfl : r1 = L1s := set_is hS aptL1 (fun i => (hm i).trans (memL1 i))
  have S2 := Lib.hid hS
  have B2 := Lib.hid (B1.out.t hk)
  clear hS hk hm h3 S1 B1
  go_wp2_with fail
  refine (add_any w2 w.heap.size sb L1s S2.out B2.out.2.1 8 2).mono ?_
  rintro e w3 ⟨h1, _, h3, hk⟩
  rw [Q2.out] at h1
  subst h1
  obtain ⟨r1, hS, hm, _⟩ := h3 Q2.out
  obtain rfl : r1 = L2s := set_is hS aptL2 (fun i => (hm i).trans (memL2 i))
  have S3 := Lib.hid hS
  have B3 := Lib.hid (B2.out.t hk)
  clear hS hk hm h3 S2 B2
  go_wp2_with fail
  refine (add_any w3 w.heap.size sb L2s S3.out B3.out.2.1 6 2).mono ?_
  rintro e w4 ⟨h1, _, h3, hk⟩
  rw [Q3.out] at h1
  subst h1
  obtain ⟨r1, hS, hm, _⟩ := h3 Q3.out
  obtain rfl : r1 = L3s := set_is hS aptL3 (fun i => (hm i).trans (memL3 i))
  have S4 := Lib.hid hS
  have B4 := Lib.hid (B3.out.t hk)
  clear hS hk hm h3 S3 B3
  go_wp2_with fail
  refine (list_any w4 w.heap.size sb L3s S4.out (by decide)).mono ?_
  rintro e w5 ⟨v, rfl, ho, hb⟩
  obtain ⟨A5, c5, rfl, _⟩ := own_form ho
  have S5 := Lib.hid (S4.out.nx hb)
  have B5 := Lib.hid (B4.out.t (KpR.of_below hb B4.out.2.1))
  have O5 := Lib.hid ho
  clear ho hb S4 B4
  go_wp2_with fail
  refine (cut_any w5 w.heap.size sb L3s S5.out B5.out.2.1 5 3).mono ?_
  rintro e w6 ⟨h1, _, h3, hk⟩
  rw [Q4.out] at h1
  subst h1
  obtain ⟨r1, hS, hm, _⟩ := h3 Q4.out
  obtain rfl : r1 = L4s := set_is hS aptL4 (fun i => (hm i).trans (memL4 i))
  have S6 := Lib.hid hS
  have B6 := Lib.hid (B5.out.t hk)
  have O6 := Lib.hid (own_kp O5.out fun b cs h => hk.2.2 _ _ _ (by decide) h)
  clear hS hk hm h3 S5 B5 O5
  go_wp2_with fail
  refine (first_any w6 w.heap.size sb L4s S6.out 2 0 (by omega) (by omega) (by omega) (by omega)).mono ?_
  rintro e w7 ⟨x, b, rfl, hv, hb⟩
  obtain ⟨rfl, rfl⟩ : x = (8, 2) ∧ b = true := by
    rcases hv with ⟨h1, _, r, hr, h2, h3⟩ | ⟨_, _, h2⟩
    · simp only [L4s, List.mem_cons, List.not_mem_nil, or_false] at hr
      rcases hr with rfl | rfl
      · exact absurd h2 (by decide)
      · exact ⟨h3, h1⟩
    · rcases h2 with h2 | h2
      · omega
      · exact absurd (h2 (8, 2) (by simp [L4s])) (by decide)
  have S7 := Lib.hid ((S6.out.nx hb).nx (balloc (Below.refl _ w7) (.cells #[.int .i64 8, .int .i64 2] 24)))
  have B7 := Lib.hid ((B6.out.t (KpR.of_below hb B6.out.2.1)).t (KpR.alloc (Nat.le_trans B6.out.2.1 hb.size) (.cells #[.int .i64 8, .int .i64 2] 24)))
  have O7 := Lib.hid (own_kp O6.out fun b cs h => (h.nx hb).alloc (.cells #[.int .i64 8, .int .i64 2] 24))
  have X7 := Lib.hid (Blk.new w7 24 #[.int .i64 8, .int .i64 2])
  clear hb hv S6 B6 O6
  go_wp2_with fail
  refine (first_any _ w.heap.size sb L4s S7.out 1 5 (by omega) (by omega) (by omega) (by omega)).mono ?_
  rintro e w8 ⟨x, b, rfl, hv, hb⟩
  obtain ⟨rfl, rfl⟩ : x = (8, 1) ∧ b = true := by
    rcases hv with ⟨h1, _, r, hr, h2, h3⟩ | ⟨_, _, h2⟩
    · simp only [L4s, List.mem_cons, List.not_mem_nil, or_false] at hr
      rcases hr with rfl | rfl
      · exact absurd h2 (by decide)
      · exact ⟨h3, h1⟩
    · rcases h2 with h2 | h2
      · omega
      · exact absurd (h2 (8, 2) (by simp [L4s])) (by decide)
  have S8 := Lib.hid ((S7.out.nx hb).nx (balloc (Below.refl _ w8) (.cells #[.int .i64 8, .int .i64 1] 24)))
  have B8 := Lib.hid ((B7.out.t (KpR.of_below hb B7.out.2.1)).t (KpR.alloc (Nat.le_trans B7.out.2.1 hb.size) (.cells #[.int .i64 8, .int .i64 1] 24)))
  have O8 := Lib.hid (own_kp O7.out fun b cs h => (h.nx hb).alloc (.cells #[.int .i64 8, .int .i64 1] 24))
  have X8 := Lib.hid ((X7.out.nx hb).alloc (.cells #[.int .i64 8, .int .i64 1] 24))
  have Y8 := Lib.hid (Blk.new w8 24 #[.int .i64 8, .int .i64 1])
  clear hb hv S7 B7 O7 X7
  go_wp2_with fail
  refine (sameR_any _ A5 (some ⟨w8.heap.size + 1, 0, none⟩) L3s.length c5 1 1 L3s [(4, 6)] ?s1 ?s2 (by decide) (by omega)).mono ?_
  case s1 => exact Reads.of_own (own_kp O8.out fun b cs h => h.alloc _)
  case s2 =>
    have := rn_lit1 (w8.alloc (.cells #[.int .i64 8, .int .i64 1] 24)) 4 6
    rw [show (w8.alloc (.cells #[.int .i64 8, .int .i64 1] 24)).heap.size = w8.heap.size + 1 by simp] at this
    exact this
  rintro e w9 ⟨rfl, hb⟩
  rw [show decide (L3s = [(4, 6)]) = true by decide]
  have hba := balloc (Below.refl _ (w8.alloc (.cells #[.int .i64 8, .int .i64 1] 24))) (.cells #[.int .i64 4, .int .i64 6] 24)
  have S9 := Lib.hid ((S8.out.nx hba).nx hb)
  have B9 := Lib.hid ((B8.out.t (KpR.of_below hba B8.out.2.1)).t (KpR.of_below hb (Nat.le_trans B8.out.2.1 hba.size)))
  have X9 := Lib.hid ((X8.out.nx hba).nx hb)
  have Y9 := Lib.hid ((Y8.out.nx hba).nx hb)
  clear hb hba S8 B8 O8 X8 Y8
  go_wp2_with fail
  refine (list_any w9 w.heap.size sb L4s S9.out (by decide)).mono ?_
  rintro e wa ⟨v, rfl, ho, hb⟩
  obtain ⟨Aa, ca, rfl, _⟩ := own_form ho
  have Sa := Lib.hid (S9.out.nx hb)
  have Ba := Lib.hid (B9.out.t (KpR.of_below hb B9.out.2.1))
  have Xa := Lib.hid (X9.out.nx hb)
  have Ya := Lib.hid (Y9.out.nx hb)
  have Oa := Lib.hid ho
  clear ho hb S9 B9 X9 Y9
  go_wp2_with fail
  refine (sameR_any _ Aa (some ⟨wa.heap.size, 0, none⟩) L4s.length ca 2 2 L4s [(4, 1), (8, 2)] ?s1 ?s2 (by decide) (by omega)).mono ?_
  case s1 => exact Reads.of_own (own_kp Oa.out fun b cs h => h.alloc _)
  case s2 => exact rn_lit2 wa 4 1 8 2
  rintro e wb ⟨rfl, hb⟩
  rw [show decide (L4s = [(4, 1), (8, 2)]) = true by decide]
  have hba := balloc (Below.refl _ wa) (.cells #[.int .i64 4, .int .i64 1, .int .i64 8, .int .i64 2] 24)
  have Sb := Lib.hid ((Sa.out.nx hba).nx hb)
  have Bb := Lib.hid ((Ba.out.t (KpR.of_below hba Ba.out.2.1)).t (KpR.of_below hb (Nat.le_trans Ba.out.2.1 hba.size)))
  obtain ⟨x0, x1⟩ := ((Xa.out.nx hba).nx hb).c2
  obtain ⟨y0, y1⟩ := ((Ya.out.nx hba).nx hb).c2
  clear hb hba Sa Ba Oa Xa Ya
  go_wp2_with fail
  refine (add_any wb w.heap.size sb L4s Sb.out Bb.out.2.1 0 5).mono ?_
  rintro e wc ⟨h1, h2, _, hk⟩
  have hS := h2 (by rw [Q5.out]; decide)
  rw [Q5.out] at h1
  subst h1
  have Sc := Lib.hid hS
  have Bc := Lib.hid (Bb.out.t hk)
  clear hS hk h2 Sb Bb x0 x1 y0 y1
  go_wp2_with fail
  refine (cut_any wc w.heap.size sb L4s Sc.out Bc.out.2.1 4 2).mono ?_
  rintro e wd ⟨h1, h2, _, hk⟩
  have hS := h2 (by rw [Q6.out]; decide)
  rw [Q6.out] at h1
  subst h1
  have Sd := Lib.hid hS
  have Bd := Lib.hid (Bc.out.t hk)
  clear hS hk h2 Sc Bc
  go_wp2_with fail
  refine (total_set wd w.heap.size sb L4s Sd.out).mono ?_
  rintro e we ⟨rfl, hb⟩
  rw [Q7.out]
  have Be := Lib.hid (Bd.out.t (KpR.of_below hb Bd.out.2.1))
  clear hb Sd Bd
  go_wp2_with fail
  go_ret
  exact ⟨rfl, Be.out.1⟩
end Go.Proofs.Ytpkbmdibiefbdaa
