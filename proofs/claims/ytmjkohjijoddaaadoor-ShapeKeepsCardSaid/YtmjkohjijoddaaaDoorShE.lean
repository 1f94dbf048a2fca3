/- Shapes: views: Slots, word, Load, Store, refs. -/
import Derived.Test.YtmjkohjijoddaaaDoorShD
namespace Go.Proofs.YtmjkohjijoddaaaDoor
open Go.RowKit
set_option linter.unusedVariables false
set_option linter.unusedSimpArgs false

theorem IsVw.nx {w w' : World} {vb bs : Nat} {g tg ty ln sz : Int} {x : Ty} (h : IsVw w vb bs g tg ty ln sz x) (hb : Below w.heap.size w w') : IsVw w' vb bs g tg ty ln sz x := Blk.nx h hb
theorem IsVw.touch {w w' : World} {vb bs br B1 B2 : Nat} {g tg ty ln sz : Int} {x : Ty} (h : IsVw w vb bs g tg ty ln sz x) (ht : Touch B1 B2 w w') (h1 : vb ≠ B1) (h2 : vb ≠ B2) : IsVw w' vb bs g tg ty ln sz x := Blk.touch h ht h1 h2
theorem IsVw.c9 {w : World} {vb bs : Nat} {g tg ty ln sz : Int} {x : Ty} (h : IsVw w vb bs g tg ty ln sz x) :
    w.cell? ⟨vb, 0, none⟩ = some (.pointer (some ⟨bs, 0, none⟩)) ∧ w.cell? ⟨vb, 1, none⟩ = some (.int .i64 g) ∧ w.cell? ⟨vb, 2, none⟩ = some (.int .u8 tg) ∧ w.cell? ⟨vb, 3, none⟩ = some (.int .i64 ty) ∧ w.cell? ⟨vb, 4, none⟩ = some (.int .i64 ln) ∧ w.cell? ⟨vb, 5, none⟩ = some (.int .i64 sz) ∧ w.cell? ⟨vb, 6, none⟩ = some (.int .u8 x.1) ∧ w.cell? ⟨vb, 7, none⟩ = some (.int .i64 x.2.1) ∧ w.cell? ⟨vb, 8, none⟩ = some (.int .u64 (x.2.2 : Int)) :=
  ⟨Blk.cell h 0, Blk.cell h 1, Blk.cell h 2, Blk.cell h 3, Blk.cell h 4, Blk.cell h 5, Blk.cell h 6, Blk.cell h 7, Blk.cell h 8⟩

/-- The slots of a view. -/
def vwN (x : Ty) (ln : Int) : Int := nS x.1 x.2.1 x.2.2 ln

section
variable (w : World) (vb bs : Nat) (g tg ty ln sz : Int) (x : Ty) (h : IsVw w vb bs g tg ty ln sz x) (hx : OkW x)
include h hx

set_option maxHeartbeats 1000000 in
theorem vSlots_any : Calls Tryd.prog 40 #[.pointer (some ⟨vb, 0, none⟩)] w fun e w' => e = .returned (.int .i64 (vwN x ln)) ∧ Below w.heap.size w w' := by
  obtain ⟨k, wd, mk⟩ := x
  have HS := Lib.hid (fun W => kslots_any k wd mk ln W ⟨hx.k0, hx.k1⟩ ⟨hx.w0, hx.w1⟩ hx.m1)
  have HV := Lib.hid h
  have D := Lib.hid (h.nx (Below.refl w.heap.size w).drew)
  obtain ⟨c0, c1, c2, c3, c4, c5, c6, c7, c8⟩ := h.c9
  dsimp only at c6 c7 c8
  have hN : vwN (k, wd, mk) ln = nS k wd mk ln := rfl
  rw [hN]
  clear hN h
  generalize nS k wd mk ln = N at *
  generalize ofE k wd mk ln = E at *
  go_enter Tryd.func40, Tryd.ntmps40
  go_wp2_with fail
  go_region_held3 (fun w' => w'.cell? ⟨vb, 4, none⟩ = some (.int .i64 ln) ∧ w'.cell? ⟨vb, 6, none⟩ = some (.int .u8 k) ∧ w'.cell? ⟨vb, 7, none⟩ = some (.int .i64 wd) ∧ w'.cell? ⟨vb, 8, none⟩ = some (.int .u64 (mk : Int))) (go_keep)
    ((go_at_call 63; refine (HS.out _).mono ?_; rintro e wa ⟨rfl, hb⟩; obtain ⟨d0, d1, d2, d3, d4, d5, d6, d7, d8⟩ := (D.out.nx hb).c9; dsimp only at d6 d7 d8))
  all_goals
    go_wp2_with fail
    go_ret
    exact ⟨rfl, bnext ((Below.refl w.heap.size w).drew) hb⟩

/-- Is a slot one of the view's? -/
def slIn (x : Ty) (ln slot : Int) : Bool := decide (0 ≤ slot ∧ slot < vwN x ln)

set_option maxHeartbeats 1000000 in
theorem vword_any (slot : Int) (g0 : 0 ≤ g) (g1 : g ≤ 65536) (hN : vwN x ln ≤ 65536) : Calls Tryd.prog 62 #[.pointer (some ⟨vb, 0, none⟩), .int .i64 slot] w fun e w' =>
    e = .returned (.tuple #[.int .i64 (if slIn x ln slot then 2 * g + 1 + slot else 0), .int .i64 (if slIn x ln slot then 0 else 2)]) ∧ Below w.heap.size w w' := by
  have HS := Lib.hid (vSlots_any w vb bs g tg ty ln sz x h hx)
  have HV := Lib.hid h
  clear h
  generalize hM : vwN x ln = N at *
  by_cases h1 : slot < 0
  · have hi : slIn x ln slot = false := by simp [slIn]; omega
    rw [hi]
    go_enter Tryd.func62, Tryd.ntmps62
    go_wp2_with fail
    go_ret2
    exact ⟨rfl, Below.refl _ _⟩
  by_cases h2 : slot < N
  · have hi : slIn x ln slot = true := by simp [slIn, hM]; omega
    rw [hi]
    have e1 : wrap64 (2 * g) = 2 * g := by simp [wrap64]; omega
    have e2 : wrap64 (2 * g + 1) = 2 * g + 1 := by simp [wrap64]; omega
    have e3 : wrap64 (2 * g + 1 + slot) = 2 * g + 1 + slot := by simp [wrap64]; omega
    have f1 : IntKind.i64.wrap (2 * g) = 2 * g := by simp [IntKind.wrap, IntKind.signed, IntKind.bits]; omega
    have f2 : IntKind.i64.wrap (2 * g + 1) = 2 * g + 1 := by simp [IntKind.wrap, IntKind.signed, IntKind.bits]; omega
    have f3 : IntKind.i64.wrap (2 * g + 1 + slot) = 2 * g + 1 + slot := by simp [IntKind.wrap, IntKind.signed, IntKind.bits]; omega
    go_enter Tryd.func62, Tryd.ntmps62
    go_wp2_with fail
    refine HS.out.mono ?_
    rintro e w' ⟨rfl, hb⟩
    obtain ⟨d0, d1, d2, d3, d4, d5, d6, d7, d8⟩ := (HV.out.nx hb).c9
    go_wp2_with fail
    go_ret2
    exact ⟨rfl, hb⟩
  · have hi : slIn x ln slot = false := by simp [slIn, hM]; omega
    rw [hi]
    go_enter Tryd.func62, Tryd.ntmps62
    go_wp2_with fail
    refine HS.out.mono ?_
    rintro e w' ⟨rfl, hb⟩
    go_wp2_with fail
    go_ret2
    exact ⟨rfl, hb⟩

section
variable (br : Nat) (ws : List Int) (rs : List Value) (c : Nat) (ha : IsAr w bs br ws rs c) (g0 : 0 ≤ g) (g1 : g ≤ 65536) (hN : vwN x ln ≤ 65536) (hfit : 2 * g + 1 + vwN x ln ≤ ws.length)
include ha g0 g1 hN hfit

/-- What a view's Load tells. -/
def slV (x : Ty) (ln : Int) (ws : List Int) (g slot : Int) : Int := if slIn x ln slot then ws.getD (2 * g + 1 + slot).toNat 0 else 0

set_option maxHeartbeats 1000000 in
theorem vLoad_any (slot : Int) : Calls Tryd.prog 41 #[.pointer (some ⟨vb, 0, none⟩), .int .i64 slot] w fun e w' =>
    e = .returned (.tuple #[.int .u64 (slV x ln ws g slot), .int .i64 (if slIn x ln slot then 0 else 2)]) ∧ Below w.heap.size w w' := by
  have HS := Lib.hid (vword_any w vb bs g tg ty ln sz x h hx slot g0 g1 hN)
  have HV := Lib.hid h
  have HA := Lib.hid ha
  have hlen := ha.hi
  clear h ha
  cases hi : slIn x ln slot
  · rw [hi] at HS
    have HZ := Lib.hid (show slV x ln ws g slot = 0 by simp [slV, hi])
    clear hi
    go_enter Tryd.func41, Tryd.ntmps41
    go_wp2_with fail
    refine HS.out.mono ?_
    rintro e w' ⟨rfl, hb⟩
    go_wp2_with fail
    go_ret2
    rw [HZ.out]
    exact ⟨rfl, hb⟩
  · rw [hi] at HS
    have hi' := hi
    simp only [slIn, decide_eq_true_eq] at hi'
    have k1 := hasE_is (len := ws.length) (i := 2 * g + 1 + slot) (n := 1) (by omega)
    have HZ := Lib.hid (show slV x ln ws g slot = ws.getD (2 * g + 1 + slot).toNat 0 by simp [slV, hi])
    have HL := Lib.hid (fun W (hW : IsAr W bs br ws rs c) => load_any W bs br ws rs c hW (2 * g + 1 + slot) (by omega) (by omega))
    have K1 := Lib.hid k1
    have K2 := Lib.hid (show ldV ws (2 * g + 1 + slot) = ws.getD (2 * g + 1 + slot).toNat 0 by rw [ldV, if_pos k1])
    clear hi hi' k1
    go_enter Tryd.func41, Tryd.ntmps41
    go_wp2_with fail
    refine HS.out.mono ?_
    rintro e w' ⟨rfl, hb⟩
    obtain ⟨d0, d1, d2, d3, d4, d5, d6, d7, d8⟩ := (HV.out.nx hb).c9
    rw [if_pos trivial, if_pos trivial]
    go_wp2_with fail
    refine (HL.out _ (HA.out.nx hb)).mono ?_
    rintro e w' ⟨rfl, rfl⟩
    rw [K1.out, K2.out]
    go_wp2_with fail
    go_ret2
    rw [HZ.out]
    exact ⟨rfl, hb⟩

/-- Behind a view's Store. -/
def ssW (x : Ty) (ln : Int) (ws : List Int) (g slot v : Int) : List Int := if slIn x ln slot then ws.set (2 * g + 1 + slot).toNat v else ws
def ssC (x : Ty) (ln : Int) (c : Nat) (slot : Int) : Nat := if slIn x ln slot then c + 1 else c

set_option maxHeartbeats 1000000 in
theorem vStore_any (slot v : Int) (hc : c ≤ 1000000000000) : Calls Tryd.prog 39 #[.pointer (some ⟨vb, 0, none⟩), .int .i64 slot, .int .u64 v] w fun e w' =>
    e = .returned (.int .i64 (if slIn x ln slot then 0 else 2)) ∧ IsAr w' bs br (ssW x ln ws g slot v) rs (ssC x ln c slot) ∧ Touch bs br w w' := by
  have HS := Lib.hid (vword_any w vb bs g tg ty ln sz x h hx slot g0 g1 hN)
  have HV := Lib.hid h
  have HA := Lib.hid ha
  have hlen := ha.hi
  clear h ha
  cases hi : slIn x ln slot
  · rw [hi] at HS
    have HZ := Lib.hid (show ssW x ln ws g slot v = ws by simp [ssW, hi])
    have HY := Lib.hid (show ssC x ln c slot = c by simp [ssC, hi])
    clear hi
    go_enter Tryd.func39, Tryd.ntmps39
    go_wp2_with fail
    refine HS.out.mono ?_
    rintro e w' ⟨rfl, hb⟩
    go_wp2_with fail
    go_ret
    rw [HZ.out, HY.out]
    exact ⟨rfl, HA.out.nx hb, Touch.of_below hb⟩
  · rw [hi] at HS
    have hi' := hi
    simp only [slIn, decide_eq_true_eq] at hi'
    have k1 := hasE_is (len := ws.length) (i := 2 * g + 1 + slot) (n := 1) (by omega)
    have HZ := Lib.hid (show ssW x ln ws g slot v = ws.set (2 * g + 1 + slot).toNat v by simp [ssW, hi])
    have HY := Lib.hid (show ssC x ln c slot = c + 1 by simp [ssC, hi])
    have HL := Lib.hid (fun W (hW : IsAr W bs br ws rs c) => store_any W bs br ws rs c hW (2 * g + 1 + slot) v (by omega) (by omega) hc)
    have K1 := Lib.hid k1
    have K2 := Lib.hid (show stW ws (2 * g + 1 + slot) v = ws.set (2 * g + 1 + slot).toNat v by rw [stW, if_pos k1])
    have K3 := Lib.hid (show stC ws (2 * g + 1 + slot) c = c + 1 by rw [stC, if_pos k1])
    clear hi hi' k1
    go_enter Tryd.func39, Tryd.ntmps39
    go_wp2_with fail
    refine HS.out.mono ?_
    rintro e w' ⟨rfl, hb⟩
    obtain ⟨d0, d1, d2, d3, d4, d5, d6, d7, d8⟩ := (HV.out.nx hb).c9
    rw [if_pos trivial, if_pos trivial]
    go_wp2_with fail
    refine (HL.out _ (HA.out.nx hb)).mono ?_
    rintro e w2 ⟨rfl, hI, hT⟩
    rw [K1.out]
    rw [K2.out, K3.out] at hI
    go_wp2_with fail
    go_ret
    rw [HZ.out, HY.out]
    exact ⟨rfl, hI, (Touch.of_below hb).trans hT⟩
end
end
end Go.Proofs.YtmjkohjijoddaaaDoor
