/- The document's answer of layer 6: Put. -/
import Derived.Test.YtehicgndccnopaaTableP
import Derived.Test.YtehicgndccnopaaRefG
import Derived.Deep.RegionLaw
namespace Go.Proofs.Ytehicgndccnopaa
open Go.RowKit
set_option linter.unusedVariables false
set_option linter.unusedSimpArgs false

set_option maxRecDepth 100000 in
set_option maxHeartbeats 2000000 in
theorem rput_bytes (w : World) (A : Option Addr) (n c : Nat) (ts : List Ty) (hr : Reads w w.heap.size 3 A n (ts.flatMap tyC)) (hn : ts.length = n) (hok : ∀ t ∈ ts, OkW t) (hh : n ≤ 64) :
    Calls Try.prog 52 #[.slice A n c] w fun e w' => e = .returned (.string (strOfNums (putB ts))) ∧ Below w.heap.size w w' := by
  have HR := Lib.hid hr
  have HN := Lib.hid hn.symm
  have HO := Lib.hid hok
  clear hok hn hr
  obtain ⟨i0, hi, hz0, hz1, hz2⟩ := info_parts Try.infoU8
  have HI := Lib.hid hi
  have Z0 := Lib.hid hz0
  have Z1 := Lib.hid hz1
  have Z2 := Lib.hid hz2
  clear hi hz0 hz1 hz2
  go_enter Try.func52, Try.ntmps52
  go_wp2_with fail
  go_loopw [3, 4] (fun b i wr => ∃ k : Nat, k ≤ n ∧ i = .int .i64 (k : Int) ∧ wr.ownsRow w.heap.size 5 1 b (1 + k * 10) (((n : Int) :: (ts.take k).flatMap tyB).map (Value.int .u8)) ∧ Below w.heap.size w wr) (fun _ i _ => n - (intOf i).toNat)
  case atStart =>
    refine ⟨0, by omega, rfl, ?_, balloc (Below.refl _ w) _⟩
    have := World.ownsRow_lit w #[.int .u8 (n : Int)] (e := 5) (size := 1) 1 (Nat.le_refl _) (by unfold maxLen; omega) rfl
    simpa using this
  case round =>
    obtain ⟨k, hk, rfl, hown, hbl⟩ := hrel
    obtain ⟨wo, rfl⟩ : ∃ wo : World, wo = wr := ⟨_, rfl⟩
    by_cases hlt : k < n
    · obtain ⟨b, o, rfl, hb, d0, d1, d2⟩ := HR.out.ty hlt
      have e0 := (hbl.cell (p := ⟨b, o + k * 3, none⟩) hb).trans d0
      have e1 := (hbl.cell (p := ⟨b, o + k * 3 + 1, none⟩) hb).trans d1
      have e2 := (hbl.cell (p := ⟨b, o + k * 3 + 2, none⟩) hb).trans d2
      have hw := HO.out _ (getD_mem ts k (0, 0, 0) (by rw [← HN.out]; exact hlt))
      have HT := Lib.hid (take_getD ts k (0, 0, 0) (by rw [← HN.out]; exact hlt))
      generalize ts.getD k (0, 0, 0) = t at *
      obtain ⟨t1, t2, t3⟩ := t
      have D2 := Lib.hid d2
      have hm := hw.m1
      obtain ⟨A1, c1, hv, hc1⟩ := own_form hown
      rw [hv] at hown ⊢
      clear hv
      have OWN := Lib.hid hown
      have BL := Lib.hid hbl
      have hsz := hbl.size
      have hlt' : (k : Int) < (n : Int) := by omega
      have h0 : (0 : Int) ≤ (k : Int) := by omega
      have hwu : IntKind.u8.wrap t2 = t2 % 256 := wrap_u8 t2
      clear d0 d1 d2 hown hbl hw
      go_wp2_with fail
      go_region_law (refine step_append_any _ rfl (.tmp 16) (.tmp 28) 109 rfl w.heap.size 5 i0 (.int .u8 0) 1 1 Try.underlying109 HI.out Z0.out Z1.out Z2.out rfl (by decide) (.slice A1 (1 + k * 10) c1) (1 + k * 10) (((n : Int) :: (ts.take k).flatMap tyB).map (Value.int .u8)) rfl (by exact OWN.out.alloc _) (wo.heap.size + 1) (some ⟨wo.heap.size, 0, none⟩) 2 2 ([t1, t2 % 256].map (Value.int .u8)) rfl (by exact lit_u8 wo _ [t1, t2 % 256] rfl (by omega)) (u8_one _) (by unfold maxLen; omega) (by omega) (by simp; omega) ?_; intro v1 w1 hown1 hgr1 _; have OWN1 := Lib.hid hown1; have BL1 := Lib.hid (Below.grown (show Below w.heap.size w _ by exact (BL.out.alloc hsz _).drew) hgr1 (by simp; omega) (fun k e => (OWN.out.lt k e).1)); clear hown1 hgr1)
      all_goals
        clear e0 e1 e2
        go_wp2_with fail
        go_loopw [3, 5] (fun b i wr => ∃ q : Nat, q ≤ 8 ∧ i = .int .i64 (q : Int) ∧ wr.ownsRow w.heap.size 5 1 b (1 + k * 10 + 2 + q) ((((n : Int) :: (ts.take k).flatMap tyB) ++ t1 :: t2 % 256 :: maskB t3 q).map (Value.int .u8)) ∧ Below w.heap.size w wr) (fun _ i _ => 8 - (intOf i).toNat)
        case atStart =>
          refine ⟨0, by omega, rfl, ?_, BL1.out⟩
          have := OWN1.out
          simpa [maskB] using this
        case round =>
          obtain ⟨q, hq, rfl, hown, hbl⟩ := hrel
          by_cases hlt8 : q < 8
          · have e2 := (hbl.cell (p := ⟨b, o + k * 3 + 2, none⟩) hb).trans D2.out
            have hsz2 := hbl.size
            have OWN := Lib.hid hown
            have BL := Lib.hid hbl
            clear hown hbl
            go_wp2_with (at_builtin; refine wpList_append_any _ rfl (.tmp 34) (.tmp 45) 109 rfl w.heap.size 5 i0 (.int .u8 0) 1 1 Try.underlying109 HI.out Z0.out Z1.out Z2.out rfl (by decide) _ _ _ rfl (OWN.out.alloc _) (wr.heap.size + 1) (some ⟨wr.heap.size, 0, none⟩) 1 1 ([(t3 : Int) / 2 ^ (8 * q) % 256].map (Value.int .u8)) rfl (lit_u8 wr _ [(t3 : Int) / 2 ^ (8 * q) % 256] rfl (by omega)) (u8_one _) (by unfold maxLen; omega) (by omega) (by simp; omega) ?_)
            intro v2 w2 hown2 hgr2 _
            have OWN2 := Lib.hid hown2
            have BL2 := Lib.hid ((BL.out.alloc hsz2 _).grown hgr2 (by simp; omega) (fun k e => (OWN.out.lt k e).1))
            clear hown2 hgr2 e2
            go_wp2_with fail
            go_roundw
            case rel =>
              refine ⟨q + 1, by omega, by go_num, ?_, BL2.out⟩
              rw [maskB_succ]
              have := OWN2.out
              simpa [Nat.add_assoc] using this
            case measure => simp [intOf]; omega
          · obtain rfl : q = 8 := by omega
            have OWN := Lib.hid hown
            have BL := Lib.hid hbl
            clear hown hbl
            go_wp2_with fail
            go_roundw
            case rel =>
              refine ⟨k + 1, by omega, by go_num, ?_, BL.out⟩
              rw [HT.out]
              have := OWN.out
              simpa [tyB, List.flatMap_append, Nat.add_mul, Nat.add_assoc] using this
            case measure => simp [intOf]; omega
    · obtain rfl : k = n := by omega
      obtain ⟨A1, c1, hv, _⟩ := own_form hown
      rw [hv] at hown ⊢
      clear hv
      have hr := Reads.of_own hown
      obtain ⟨b1, o1, hA, hb1, hcell⟩ := hr.spotN (by omega) (by omega)
      subst hA
      have hl : ((k : Int) :: (ts.take k).flatMap tyB).length = 1 + k * 10 := by have := hr.1; simpa using this
      have hcv := run_convert_bytes_arg (P := Try.prog) wo 109 5 Try.underlying109 Try.underlying5 b1 o1 (1 + k * 10) c1 ((k : Int) :: (ts.take k).flatMap tyB) hl (fun i hi => hcell i _ (by
        rw [List.getElem?_map, List.getElem?_eq_getElem (by rw [hl]; exact hi)]
        simp [List.getD, List.getElem?_eq_getElem (show i < ((k : Int) :: (ts.take k).flatMap tyB).length by rw [hl]; exact hi)])) 9 Try.underlying9
      have BL := Lib.hid hbl
      have HP := Lib.hid (show ((k : Int) :: (ts.take k).flatMap tyB) = putB ts by
        rw [List.take_of_length_le (by rw [← HN.out]; exact Nat.le_refl _), putB, ← HN.out, Int.emod_eq_of_lt (by omega) (by omega)])
      rw [HP.out] at hcv
      clear hown hbl hr hl hcell
      go_wp2_with fail
      go_ret
      exact ⟨rfl, BL.out⟩
end Go.Proofs.Ytehicgndccnopaa
