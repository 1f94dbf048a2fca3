/- The document's May, Encode, Decode of layer 7; headers compared. -/
import Derived.Test.YtmjkohjijoddaaaDoorHeadC
namespace Go.Proofs.YtmjkohjijoddaaaDoor
open Go.RowKit
set_option linter.unusedVariables false
set_option linter.unusedSimpArgs false

set_option maxHeartbeats 1000000 in
theorem refMay_any (tg ty ln sz : Int) (w : World) :
    Calls Tryd.prog 45 #[.agg #[.int .u8 tg, .int .i64 ty, .int .i64 ln, .int .i64 sz]] w fun e w' => e = .returned (.bool (okH tg ty ln sz)) ∧ Below w.heap.size w w' := by
  go_enter Tryd.func45, Tryd.ntmps45
  go_wp2
  all_goals go_ret
  all_goals refine ⟨ret_bool ?_, (Below.refl _ _).alloc (Nat.le_refl _) _⟩
  all_goals rw [Bool.eq_iff_iff]
  all_goals try simp only [beq_iff_eq, beq_eq_false_iff_ne, ne_eq, bne_iff_ne, bne_eq_false_iff_eq] at *
  all_goals simp [okH]
  all_goals omega

set_option maxHeartbeats 1000000 in
theorem refEncode_any (tg ty ln sz : Int) (w : World) :
    Calls Tryd.prog 11 #[.agg #[.int .u8 tg, .int .i64 ty, .int .i64 ln, .int .i64 sz]] w fun e w' => e = .returned (.tuple #[.int .u64 (encW tg ty ln sz), .int .i64 (chkH tg ty ln sz)]) ∧ Below w.heap.size w w' := by
  go_enter Tryd.func11, Tryd.ntmps11
  go_wp2_with fail
  refine (refMay_any tg ty ln sz _).mono ?_
  rintro e w1 ⟨rfl, hb⟩
  have hz : w.heap.size < w1.heap.size := by have := hb.size; simp at this; omega
  have b1 : Blk w1 w.heap.size 23 #[.int .u8 tg, .int .i64 ty, .int .i64 ln, .int .i64 sz] := (Blk.new w _ _).below hb (by simp)
  have c0 := b1.cell 0
  have c1 := b1.cell 1
  have c2 := b1.cell 2
  have c3 := b1.cell 3
  simp only [List.getElem?_toArray, List.getElem?_cons_zero, List.getElem?_cons_succ] at c0 c1 c2 c3
  have hB : Below w.heap.size w w1 := ((Below.refl _ _).alloc (Nat.le_refl _) _).trans (hb.mono (by simp))
  clear hb b1
  cases hok : okH tg ty ln sz
  · have HE := Lib.hid (show encW tg ty ln sz = 0 by simp [encW, hok])
    have HC := Lib.hid (chkH_no hok)
    go_wp2_with fail
    go_ret2
    rw [HE.out, HC.out]
    exact ⟨rfl, hB⟩
  · have HE := Lib.hid (show encW tg ty ln sz = tg + 4 * ty + 65536 * ln + 1099511627776 * sz by simp [encW, hok])
    have HC := Lib.hid (chkH_yes hok)
    have hb4 : 0 ≤ tg ∧ tg < 4 ∧ 0 ≤ ty ∧ ty < 4096 ∧ 0 ≤ ln ∧ ln < 16777216 ∧ 0 ≤ sz ∧ sz < 16777216 := by simp [okH] at hok; omega
    obtain ⟨l0, h0, l1, h1, l2, h2, l3, h3⟩ := hb4
    have HOK := Lib.hid hok
    clear hok
    have xw0 : IntKind.u64.wrap tg = tg := wrapu _ (by omega) (by omega)
    have xw1 : IntKind.u64.wrap ty = ty := wrapu _ (by omega) (by omega)
    have xw2 : IntKind.u64.wrap ln = ln := wrapu _ (by omega) (by omega)
    have xw3 : IntKind.u64.wrap sz = sz := wrapu _ (by omega) (by omega)
    have v1 : IntKind.u64.wrap (4 * ty) = 4 * ty := wrapu _ (by omega) (by omega)
    have v2 : IntKind.u64.wrap (65536 * ln) = 65536 * ln := wrapu _ (by omega) (by omega)
    have v3 : IntKind.u64.wrap (1099511627776 * sz) = 1099511627776 * sz := wrapu _ (by omega) (by omega)
    have u1 : IntKind.u64.wrap (tg + 4 * ty) = tg + 4 * ty := wrapu _ (by omega) (by omega)
    have u2 : IntKind.u64.wrap (tg + 4 * ty + 65536 * ln) = tg + 4 * ty + 65536 * ln := wrapu _ (by omega) (by omega)
    have u3 : IntKind.u64.wrap (tg + 4 * ty + 65536 * ln + 1099511627776 * sz) = tg + 4 * ty + 65536 * ln + 1099511627776 * sz := wrapu _ (by omega) (by omega)
    go_wp2_with fail
    go_ret2
    rw [HE.out, HC.out]
    exact ⟨rfl, hB⟩

theorem okD_iff (x : Int) (h0 : 0 ≤ x) (h1 : x < 18446744073709551616) :
    okD x = (okH (x % 4) (x / 4 % 4096) (x / 65536 % 16777216) (x / 1099511627776) && (encW (x % 4) (x / 4 % 4096) (x / 65536 % 16777216) (x / 1099511627776) == x)) := by
  have e : x / 1099511627776 % 16777216 = x / 1099511627776 := by omega
  unfold okD
  rw [e]
  cases h : okH (x % 4) (x / 4 % 4096) (x / 65536 % 16777216) (x / 1099511627776)
  · rfl
  · simp only [encW, h, Bool.true_and, if_true]
    rw [Bool.eq_iff_iff]
    simp only [beq_iff_eq]
    omega

set_option maxHeartbeats 1000000 in
theorem refDecode_any (x : Nat) (hx : x < 18446744073709551616) (w : World) :
    Calls Tryd.prog 13 #[.int .u64 (x : Int)] w fun e w' => e = .returned (.tuple #[.agg #[.int .u8 (dT x), .int .i64 (dY x), .int .i64 (dL x), .int .i64 (dS x)], .int .i64 (decE x)]) ∧ Below w.heap.size w w' := by
  have HD := Lib.hid (okD_iff (x : Int) (by omega) (by omega))
  have HS : Hid ((x : Int) / 1099511627776 % 16777216 = (x : Int) / 1099511627776) := Lib.hid (by omega)
  have c8 : IntKind.u8.wrap ((x : Int) % 4) = (x : Int) % 4 := by simp [IntKind.wrap, IntKind.signed, IntKind.bits]; omega
  go_enter Tryd.func13, Tryd.ntmps13
  go_wp2_with fail
  refine (refEncode_any ((x : Int) % 4) ((x : Int) / 4 % 4096) ((x : Int) / 65536 % 16777216) ((x : Int) / 1099511627776) _).mono ?_
  rintro e w1 ⟨rfl, hb⟩
  have hz : w.heap.size + 1 < w1.heap.size := by have := hb.size; simp at this; omega
  have hB : Below w.heap.size w w1 := (((Below.refl _ _).alloc (Nat.le_refl _) _).alloc (by simp) _).trans (hb.mono (by simp; omega))
  have b1 : Blk w1 w.heap.size 23 #[.int .u8 0, .int .i64 0, .int .i64 0, .int .i64 0] := ((Blk.new w _ _).alloc _).below hb (by simp; omega)
  have b2 : Blk w1 (w.heap.size + 1) 23 #[.int .u8 ((x : Int) % 4), .int .i64 ((x : Int) / 4 % 4096), .int .i64 ((x : Int) / 65536 % 16777216), .int .i64 ((x : Int) / 1099511627776)] := (Blk.new_at _ _ _ _ (by simp)).below hb (by simp)
  have c10 := b1.cell 0
  have c11 := b1.cell 1
  have c12 := b1.cell 2
  have c13 := b1.cell 3
  have g10 := b1.frozen 0
  have g11 := b1.frozen 1
  have g12 := b1.frozen 2
  have g13 := b1.frozen 3
  have c20 := b2.cell 0
  have c21 := b2.cell 1
  have c22 := b2.cell 2
  have c23 := b2.cell 3
  simp only [List.getElem?_toArray, List.getElem?_cons_zero, List.getElem?_cons_succ] at c10 c11 c12 c13 c20 c21 c22 c23
  clear b1 b2 hb
  by_cases hok : okH ((x : Int) % 4) ((x : Int) / 4 % 4096) ((x : Int) / 65536 % 16777216) ((x : Int) / 1099511627776) = true
  · rw [chkH_yes hok]
    by_cases h2 : (encW ((x : Int) % 4) ((x : Int) / 4 % 4096) ((x : Int) / 65536 % 16777216) ((x : Int) / 1099511627776)) = (x : Int)
    · have H : Hid (okD x = true) := Lib.hid (by rw [HD.out, hok, h2]; simp)
      rw [h2]
      clear hok h2
      have hx2 : ((x : Int) != (x : Int)) = false := by simp
      go_wp2_with fail
      refine bodyPost_ret (v := .tuple #[.agg #[.int .u8 ((x : Int) % 4), .int .i64 ((x : Int) / 4 % 4096), .int .i64 ((x : Int) / 65536 % 16777216), .int .i64 ((x : Int) / 1099511627776)], .int .i64 0]) (by simp [results, Tryd.results13, go_sem, c10, c11, c12, c13]) rfl ⟨by simp [dT, dY, dL, dS, decE, H.out, HS.out], ?_⟩
      exact ((((hB).setCell (by simp) _).setCell (by simp) _).setCell (by simp) _).setCell (by simp) _
    · have H : Hid (okD x = false) := Lib.hid (by rw [HD.out, hok]; simpa using h2)
      generalize encW ((x : Int) % 4) ((x : Int) / 4 % 4096) ((x : Int) / 65536 % 16777216) ((x : Int) / 1099511627776) = y at *
      have h3 : (y != (x : Int)) = true := by simpa using h2
      clear hok h2
      go_wp2_with fail
      refine bodyPost_ret (v := .tuple #[.agg #[.int .u8 0, .int .i64 0, .int .i64 0, .int .i64 0], .int .i64 7]) (by simp [results, Tryd.results13, go_sem, c10, c11, c12, c13]) rfl ⟨by simp [dT, dY, dL, dS, decE, H.out, HS.out], ?_⟩
      exact ((((hB).setCell (by simp) _).setCell (by simp) _).setCell (by simp) _).setCell (by simp) _
  · rw [chkH_no (by simpa using hok)]
    have H : Hid (okD x = false) := Lib.hid (by rw [HD.out]; simp at hok; simp [hok])
    clear hok
    generalize encW ((x : Int) % 4) ((x : Int) / 4 % 4096) ((x : Int) / 65536 % 16777216) ((x : Int) / 1099511627776) = y at *
    go_wp2_with fail
    refine bodyPost_ret (v := .tuple #[.agg #[.int .u8 0, .int .i64 0, .int .i64 0, .int .i64 0], .int .i64 7]) (by simp [results, Tryd.results13, go_sem, c10, c11, c12, c13]) rfl ⟨by simp [dT, dY, dL, dS, decE, H.out, HS.out], ?_⟩
    exact ((((hB).setCell (by simp) _).setCell (by simp) _).setCell (by simp) _).setCell (by simp) _
end Go.Proofs.YtmjkohjijoddaaaDoor
