/- Shapes: Head, Make. -/
import Derived.Test.YtmjkohjijoddaaaDoorShA
namespace Go.Proofs.YtmjkohjijoddaaaDoor
open Go.RowKit
set_option linter.unusedVariables false
set_option linter.unusedSimpArgs false

/-- Words are words. -/
def WdsOk (ws : List Int) : Prop := ∀ u ∈ ws, 0 ≤ u ∧ u < 18446744073709551616
theorem WdsOk.nat {ws : List Int} (h : WdsOk ws) (i : Nat) : ∃ x : Nat, ws.getD i 0 = (x : Int) ∧ x < 18446744073709551616 := by
  by_cases hi : i < ws.length
  · have := h _ (List.getElem_mem hi)
    refine ⟨(ws[i]).toNat, ?_, by omega⟩
    simp [List.getD, hi]
    omega
  · exact ⟨0, by simp [List.getD, List.getElem?_eq_none (by omega : ws.length ≤ i)], by omega⟩

/-- Is a granule one of the arena's? -/
def hdIn (ws : List Int) (g : Int) : Bool := decide (0 ≤ g ∧ g < grN ws)
/-- What Head tells. -/
def hdE (ws : List Int) (g : Int) : Int := if hdIn ws g then decE (ws.getD (2 * g).toNat 0) else 2
def hdX (f : Int → Int) (ws : List Int) (g : Int) : Int := if hdIn ws g then f (ws.getD (2 * g).toNat 0) else 0

section
variable (w : World) (bs br : Nat) (ws : List Int) (rs : List Value) (c : Nat) (h : IsAr w bs br ws rs c)
include h

set_option maxRecDepth 100000 in
set_option maxHeartbeats 2000000 in
theorem shHead_any (hw : WdsOk ws) (hF : Flds w) (g : Int) (g0 : -9223372036854775808 ≤ g) (g1 : g ≤ 9223372036854775807) :
    Calls Tryd.prog 55 #[.pointer (some ⟨bs, 0, none⟩), .int .i64 g] w fun e w' => e = .returned (.tuple #[.agg #[.int .u8 (hdX dT ws g), .int .i64 (hdX dY ws g), .int .i64 (hdX dL ws g), .int .i64 (hdX dS ws g)], .int .i64 (hdE ws g)]) ∧ Below w.heap.size w w' := by
  have HI := Lib.hid h
  have HG := Lib.hid (fun W (hW : IsAr W bs br ws rs c) => granules_any W bs br ws rs c hW)
  have HF := Lib.hid hF
  have hL := h.hi
  clear hF
  cases hin : hdIn ws g
  · have HV := Lib.hid (show hdX dT ws g = 0 ∧ hdX dY ws g = 0 ∧ hdX dL ws g = 0 ∧ hdX dS ws g = 0 ∧ hdE ws g = 2 by simp [hdX, hdE, hin])
    simp only [hdIn, decide_eq_false_iff_not] at hin
    by_cases h1 : g < 0
    · have d1 : decide (g < 0) = true := by simpa using h1
      go_enter Tryd.func55, Tryd.ntmps55
      go_wp2_with fail
      refine bodyPost_ret (v := .tuple #[.agg #[.int .u8 0, .int .i64 0, .int .i64 0, .int .i64 0], .int .i64 2]) (by simp [results, Tryd.results55, go_sem]) rfl ⟨by rw [HV.out.1, HV.out.2.1, HV.out.2.2.1, HV.out.2.2.2.1, HV.out.2.2.2.2], ?_⟩
      exact balloc (Below.refl _ w) _
    · have d1 : decide (g < 0) = false := by simpa using h1
      have h2 : grN ws ≤ g := by omega
      clear hin
      generalize grN ws = G at *
      go_enter Tryd.func55, Tryd.ntmps55
      go_wp2_with fail
      refine (HG.out _ (HI.out.alloc _)).mono ?_
      rintro e w' ⟨rfl, rfl⟩
      go_wp2_with fail
      refine bodyPost_ret (v := .tuple #[.agg #[.int .u8 0, .int .i64 0, .int .i64 0, .int .i64 0], .int .i64 2]) (by simp [results, Tryd.results55, go_sem]) rfl ⟨by rw [HV.out.1, HV.out.2.1, HV.out.2.2.1, HV.out.2.2.2.1, HV.out.2.2.2.2], ?_⟩
      exact balloc (Below.refl _ w) _
  · obtain ⟨x, hx, hx2⟩ := hw.nat (2 * g).toNat
    have HV := Lib.hid (show hdX dT ws g = dT (x : Int) ∧ hdX dY ws g = dY (x : Int) ∧ hdX dL ws g = dL (x : Int) ∧ hdX dS ws g = dS (x : Int) ∧ hdE ws g = decE (x : Int) by simp only [hdX, hdE, hin, if_true, hx]; simp)
    simp only [hdIn, decide_eq_true_eq] at hin
    obtain ⟨h1, h2⟩ := hin
    have hg2 : 0 ≤ 2 * g ∧ 2 * g + 1 < ws.length := by unfold grN at h2; omega
    have HL := Lib.hid (fun W (hW : IsAr W bs br ws rs c) => load_any W bs br ws rs c hW (2 * g) (by omega) (by omega))
    have HV1 := Lib.hid (show ldV ws (2 * g) = (x : Int) by rw [ldV, if_pos (hasE_is (by omega)), hx])
    have HV2 := Lib.hid (show hasE ws.length (2 * g) 1 = 0 from hasE_is (by omega))
    have HX := Lib.hid hx2
    have hw2 : wrap64 (2 * g) = 2 * g := by simp [wrap64]; omega
    have hw3 : IntKind.i64.wrap (2 * g) = 2 * g := by simp [IntKind.wrap, IntKind.signed, IntKind.bits]; omega
    clear hx hx2 hw
    generalize grN ws = G at *
    go_enter Tryd.func55, Tryd.ntmps55
    go_wp2_with fail
    refine (HG.out _ (HI.out.alloc _)).mono ?_
    rintro e w' ⟨rfl, rfl⟩
    go_wp2_with fail
    refine (HL.out _ (HI.out.alloc _)).mono ?_
    rintro e w' ⟨rfl, rfl⟩
    rw [HV1.out, HV2.out]
    go_wp2_with fail
    refine (headDecode_any x HX.out _ (HF.out.al _)).mono ?_
    rintro e w1 ⟨rfl, hb⟩
    have b1 := (Blk.new w 23 #[.int .u8 0, .int .i64 0, .int .i64 0, .int .i64 0]).nx hb
    have hB := Lib.hid (bnext (balloc (Below.refl _ w) _) hb)
    have hz := b1.lt
    clear hb
    obtain ⟨c0, c1, c2, c3⟩ := b1.c4
    have f0 := b1.frozen 0
    have f1 := b1.frozen 1
    have f2 := b1.frozen 2
    have f3 := b1.frozen 3
    clear b1
    go_wp2_with fail
    refine bodyPost_ret (v := .tuple #[.agg #[.int .u8 (dT x), .int .i64 (dY x), .int .i64 (dL x), .int .i64 (dS x)], .int .i64 (decE x)]) (by simp [results, Tryd.results55, go_sem, c0, c1, c2, c3, hz]) rfl ⟨by rw [HV.out.1, HV.out.2.1, HV.out.2.2.1, HV.out.2.2.2.1, HV.out.2.2.2.2], ?_⟩
    exact setB4 hB.out (Nat.le_refl _) _ _ _ _
end

/-- Behind Make. -/
def mkE (ts : List Ty) (ws : List Int) (g id n : Int) : Int :=
  if szE ts id n = 0 then (if 0 ≤ g ∧ g ≤ grN ws ∧ szG ts id n ≤ grN ws - g then 0 else 2) else szE ts id n
def mkW (ts : List Ty) (ws : List Int) (g id n : Int) : List Int :=
  if mkE ts ws g id n = 0 then (fillN ws (2 * g).toNat 0 (2 * szG ts id n).toNat).set (2 * g).toNat (encW 1 id n (szG ts id n)) else ws
def mkC (ts : List Ty) (ws : List Int) (g id n : Int) (c : Nat) : Nat :=
  if mkE ts ws g id n = 0 then c + (2 * szG ts id n).toNat + 1 else c
theorem mkW_len (ts : List Ty) (ws : List Int) (g id n : Int) : (mkW ts ws g id n).length = ws.length := by
  unfold mkW; split <;> simp [fillN_length]
end Go.Proofs.YtmjkohjijoddaaaDoor
