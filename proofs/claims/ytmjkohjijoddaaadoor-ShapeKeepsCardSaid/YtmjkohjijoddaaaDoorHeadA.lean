/- head.Check and its closure: what they answer where the table 'fields' holds what its text lays. -/
import Derived.Test.YtmjkohjijoddaaaDoorBase
namespace Go.Proofs.YtmjkohjijoddaaaDoor
open Go.RowKit
set_option linter.unusedVariables false
set_option linter.unusedSimpArgs false

/-- The table 'fields' (variable 0) as its text lays it. -/
structure Flds (w : World) : Prop where
  a0 : w.cell? ⟨0, 0, none⟩ = some (.int .i64 0)
  n0 : w.cell? ⟨0, 1, none⟩ = some (.int .i64 2)
  a1 : w.cell? ⟨0, 2, none⟩ = some (.int .i64 2)
  n1 : w.cell? ⟨0, 3, none⟩ = some (.int .i64 12)
  a2 : w.cell? ⟨0, 4, none⟩ = some (.int .i64 14)
  n2 : w.cell? ⟨0, 5, none⟩ = some (.int .i64 2)
  a3 : w.cell? ⟨0, 6, none⟩ = some (.int .i64 16)
  n3 : w.cell? ⟨0, 7, none⟩ = some (.int .i64 24)
  a4 : w.cell? ⟨0, 8, none⟩ = some (.int .i64 40)
  n4 : w.cell? ⟨0, 9, none⟩ = some (.int .i64 24)
  pos : 0 < w.heap.size

theorem Flds.keep {w w' : World} (h : Flds w) (hz : 0 < w'.heap.size) (hc : ∀ o, w'.cell? ⟨0, o, none⟩ = w.cell? ⟨0, o, none⟩) : Flds w' :=
  ⟨(hc _).trans h.a0, (hc _).trans h.n0, (hc _).trans h.a1, (hc _).trans h.n1, (hc _).trans h.a2, (hc _).trans h.n2, (hc _).trans h.a3, (hc _).trans h.n3, (hc _).trans h.a4, (hc _).trans h.n4, hz⟩
theorem Flds.below {w w' : World} {B : Nat} (h : Flds w) (hb : Below B w w') (hB : 0 < B) : Flds w' :=
  h.keep (Nat.lt_of_lt_of_le h.pos hb.size) fun o => hb.cell (p := ⟨0, o, none⟩) hB

theorem most1 (w : World) (h : Flds w) : Calls Tryd.prog 47 #[.int .i64 1] w fun e w' => e = .returned (.int .i64 4095) ∧ w' = w := by
  have h1 := h.n1
  go_enter Tryd.func47, Tryd.ntmps47
  go_wp2
  go_ret
  exact ⟨rfl, rfl⟩
theorem most3 (w : World) (h : Flds w) : Calls Tryd.prog 47 #[.int .i64 3] w fun e w' => e = .returned (.int .i64 16777215) ∧ w' = w := by
  have h1 := h.n3
  go_enter Tryd.func47, Tryd.ntmps47
  go_wp2
  go_ret
  exact ⟨rfl, rfl⟩
theorem most4 (w : World) (h : Flds w) : Calls Tryd.prog 47 #[.int .i64 4] w fun e w' => e = .returned (.int .i64 16777215) ∧ w' = w := by
  have h1 := h.n4
  go_enter Tryd.func47, Tryd.ntmps47
  go_wp2
  go_ret
  exact ⟨rfl, rfl⟩

def mostV (f : Int) : Int := if f = 1 then 4095 else 16777215
theorem most_any (f : Int) (w : World) (h : Flds w) (hf : f = 1 ∨ f = 3 ∨ f = 4) : Calls Tryd.prog 47 #[.int .i64 f] w fun e w' => e = .returned (.int .i64 (mostV f)) ∧ w' = w := by
  rcases hf with rfl | rfl | rfl
  · exact most1 w h
  · exact most3 w h
  · exact most4 w h

/-- Which headers may be. -/
def okH (tg ty ln sz : Int) : Bool :=
  decide (1 ≤ sz) && decide (sz ≤ 16777215) && decide (0 ≤ ln) && decide (ln ≤ 16777215) && ((tg == 1 && decide (1 ≤ ty) && decide (ty ≤ 4095)) || ((tg == 2 || tg == 3) && ty == 0 && ln == 0))
def chkH (tg ty ln sz : Int) : Int := if okH tg ty ln sz then 0 else 2

theorem chkH_no {tg ty ln sz : Int} (h : okH tg ty ln sz = false) : chkH tg ty ln sz = 2 := by simp [chkH, h]
theorem chkH_yes {tg ty ln sz : Int} (h : okH tg ty ln sz = true) : chkH tg ty ln sz = 0 := by simp [chkH, h]

set_option maxHeartbeats 1000000 in
theorem headCheck_any (tg ty ln sz : Int) (w : World) (hF : Flds w) :
    Calls Tryd.prog 14 #[.agg #[.int .u8 tg, .int .i64 ty, .int .i64 ln, .int .i64 sz]] w fun e w' => e = .returned (.int .i64 (chkH tg ty ln sz)) ∧ Below w.heap.size w w' := by
  have hF1 : ∀ n, Flds ((w.alloc (.cells #[.int .u8 tg, .int .i64 ty, .int .i64 ln, .int .i64 sz] 23)).drewN n) := fun n => hF.below (w' := (w.alloc _).drewN n) (((Below.refl w.heap.size w).alloc (Nat.le_refl _) _).trans ⟨rfl, rfl, rfl, Nat.le_refl _, fun _ _ => rfl⟩) hF.pos
  have HF := Lib.hid hF1
  have m1 : mostV 1 = 4095 := rfl
  have m3 : mostV 3 = 16777215 := rfl
  have m4 : mostV 4 = 16777215 := rfl
  clear hF1 hF
  by_cases h1 : sz < 1
  · have d1 : decide (sz < 1) = true := by simpa using h1
    have H : Hid (chkH tg ty ln sz = 2) := chkH_no (by simp [okH]; omega)
    go_enter Tryd.func14, Tryd.ntmps14
    go_wp2
    go_quiet (fail)
    go_wp2
    go_ret
    exact ⟨ret_int H.out.symm, bdrewN ((Below.refl _ _).alloc (Nat.le_refl _) _) _⟩
  have d1 : decide (sz < 1) = false := by simpa using h1
  by_cases h2 : 16777215 < sz
  · have d2 : decide (16777215 < sz) = true := by simpa using h2
    have H : Hid (chkH tg ty ln sz = 2) := chkH_no (by simp [okH]; omega)
    go_enter Tryd.func14, Tryd.ntmps14
    go_wp2
    go_quiet ((go_at_call 47; exact Calls.quiet_of_same (most_any _ _ (HF.out _) (by omega))))
    go_wp2
    go_ret
    exact ⟨ret_int H.out.symm, bdrewN ((Below.refl _ _).alloc (Nat.le_refl _) _) _⟩
  have d2 : decide (16777215 < sz) = false := by simpa using h2
  by_cases h3 : ln < 0
  · have d3 : decide (ln < 0) = true := by simpa using h3
    have H : Hid (chkH tg ty ln sz = 2) := chkH_no (by simp [okH]; omega)
    go_enter Tryd.func14, Tryd.ntmps14
    go_wp2
    go_quiet ((go_at_call 47; exact Calls.quiet_of_same (most_any _ _ (HF.out _) (by omega))))
    go_wp2
    go_ret
    exact ⟨ret_int H.out.symm, bdrewN ((Below.refl _ _).alloc (Nat.le_refl _) _) _⟩
  have d3 : decide (ln < 0) = false := by simpa using h3
  by_cases h4 : 16777215 < ln
  · have d4 : decide (16777215 < ln) = true := by simpa using h4
    have H : Hid (chkH tg ty ln sz = 2) := chkH_no (by simp [okH]; omega)
    go_enter Tryd.func14, Tryd.ntmps14
    go_wp2
    go_quiet ((go_at_call 47; exact Calls.quiet_of_same (most_any _ _ (HF.out _) (by omega))))
    go_wp2
    go_ret
    exact ⟨ret_int H.out.symm, bdrewN ((Below.refl _ _).alloc (Nat.le_refl _) _) _⟩
  have d4 : decide (16777215 < ln) = false := by simpa using h4
  by_cases h5 : tg = 1
  · subst h5
    by_cases h6 : 1 ≤ ty
    · have d6 : decide (1 ≤ ty) = true := by simpa using h6
      by_cases h7 : ty ≤ 4095
      · have d7 : decide (ty ≤ 4095) = true := by simpa using h7
        have H : Hid (chkH 1 ty ln sz = 0) := chkH_yes (by simp [okH]; omega)
        go_enter Tryd.func14, Tryd.ntmps14
        go_wp2
        go_quiet ((go_at_call 47; exact Calls.quiet_of_same (most_any _ _ (HF.out _) (by omega))))
        go_wp2
        go_quiet ((go_at_call 47; exact quiet_add_same (most_any _ _ (HF.out _) (by omega))))
        go_wp2
        go_ret
        first | exact ⟨ret_int H.out.symm, bdrewN ((Below.refl _ _).alloc (Nat.le_refl _) _) _⟩ | exact ⟨ret_int H.out.symm, bdrewN (bdrewN ((Below.refl _ _).alloc (Nat.le_refl _) _) _) _⟩
      · have d7 : decide (ty ≤ 4095) = false := by simpa using h7
        have H : Hid (chkH 1 ty ln sz = 2) := chkH_no (by simp [okH]; omega)
        go_enter Tryd.func14, Tryd.ntmps14
        go_wp2
        go_quiet ((go_at_call 47; exact Calls.quiet_of_same (most_any _ _ (HF.out _) (by omega))))
        go_wp2
        go_quiet ((go_at_call 47; exact quiet_add_same (most_any _ _ (HF.out _) (by omega))))
        go_wp2
        go_ret
        first | exact ⟨ret_int H.out.symm, bdrewN ((Below.refl _ _).alloc (Nat.le_refl _) _) _⟩ | exact ⟨ret_int H.out.symm, bdrewN (bdrewN ((Below.refl _ _).alloc (Nat.le_refl _) _) _) _⟩
    · have d6 : decide (1 ≤ ty) = false := by simpa using h6
      have H : Hid (chkH 1 ty ln sz = 2) := chkH_no (by simp [okH]; omega)
      go_enter Tryd.func14, Tryd.ntmps14
      go_wp2
      go_quiet ((go_at_call 47; exact Calls.quiet_of_same (most_any _ _ (HF.out _) (by omega))))
      go_wp2
      go_quiet (fail)
      go_wp2
      go_ret
      exact ⟨ret_int H.out.symm, bdrewN ((Below.refl _ _).alloc (Nat.le_refl _) _) _⟩
  · have d5 : (tg == 1) = false := by simpa using h5
    go_enter Tryd.func14, Tryd.ntmps14
    go_wp2
    go_quiet ((go_at_call 47; exact Calls.quiet_of_same (most_any _ _ (HF.out _) (by omega))))
    go_wp2
    go_quiet (fail)
    go_wp2
    all_goals go_ret
    all_goals refine ⟨ret_int ?_, bdrewN ((Below.refl _ _).alloc (Nat.le_refl _) _) _⟩
    all_goals go_light
    all_goals clear HF
    all_goals simp [chkH, okH]
    all_goals simp only [beq_iff_eq, beq_eq_false_iff_ne, ne_eq] at *
    all_goals omega
end Go.Proofs.YtmjkohjijoddaaaDoor
