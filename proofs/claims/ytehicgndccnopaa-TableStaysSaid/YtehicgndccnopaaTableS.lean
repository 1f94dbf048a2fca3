/- The law TableStays: the walk. -/
import Derived.Test.YtehicgndccnopaaTableM
import Derived.Laws.OwnMore
namespace Go.Proofs.Ytehicgndccnopaa
open Go.RowKit
set_option linter.unusedVariables false
set_option linter.unusedSimpArgs false

/-- The types that a table has when the first k were added. -/
def tl (ts : List Ty) (k : Nat) : List Ty := (ts.take k).foldl addL []
theorem tl_succ (ts : List Ty) (k : Nat) (h : k < ts.length) : tl ts (k + 1) = addL (tl ts k) (ts.getD k (0, 0, 0)) := by
  rw [tl, take_getD ts k (0, 0, 0) h, List.foldl_append]
  rfl

theorem own_touch2 {w w' : World} {base : Nat} {e : TypeId} {size : Nat} {v : Value} {n : Nat} {xs : List Value} {bs br : Nat} (h : w.ownsRow base e size v n xs) (h1 : v.ownBlock ≠ some bs) (h2 : v.ownBlock ≠ some br) (ht : Touch bs br w w') : w'.ownsRow base e size v n xs := by
  refine ⟨h.1, ?_⟩
  rcases h.2 with h3 | ⟨g, cap, cur, rfl, hb, hg, h3⟩
  · exact .inl h3
  · exact .inr ⟨g, cap, cur, rfl, hb, (ht.block g (Blk.lt hg) (fun e => h1 (by rw [e]; rfl)) (fun e => h2 (by rw [e]; rfl))).trans hg, h3⟩
theorem IsTb.grown {w w' : World} {B tb g : Nat} {v : Value} {ts : List Ty} {row : Option Nat} (h : IsTb w B tb g v ts) (hg : w.grownBy w' row) (h1 : row ≠ some tb) (h2 : row ≠ some g) : IsTb w' B tb g v ts := by
  refine ⟨h.s.grown hg (fun e => h1 e.symm), h.r.kept hg ?_, h.ob, h.ne, h.lo, h.hi⟩
  cases ho : v.ownBlock with
  | none => exact .inl rfl
  | some k =>
    right
    have := h.ob
    rw [ho] at this
    simp at this
    subst this
    exact fun e => h2 e.symm
theorem own_some {w : World} {base : Nat} {e : TypeId} {size : Nat} {v : Value} {n : Nat} {xs : List Value} (h : w.ownsRow base e size v n xs) (hn : 0 < n) : ∃ g cap, v = .slice (some ⟨g, 0, none⟩) n cap ∧ base ≤ g := by
  rcases h.2 with ⟨_, h0⟩ | ⟨g, cap, cur, rfl, hb, _⟩
  · omega
  · exact ⟨g, cap, rfl, hb⟩

set_option maxRecDepth 100000 in
set_option maxHeartbeats 8000000 in
theorem tableStays_walk (W : World) (A : Option Addr) (len cap : Nat) (ts : List Ty) (h : TysIs W A len cap ts) :
    Calls Try.prog 11 #[.slice A len cap] W fun e w' => e = .returned (.bool true) ∧ Below W.heap.size W w' := by
  have HH := Lib.hid h
  have hlen : len ≤ 9223372036854775807 := Nat.le_trans h.le h.mx
  clear h
  by_cases hl : 200 < len
  · go_enter Try.func11, Try.ntmps11
    go_wp2_with fail
    refine (alive06 _).mono ?_
    rintro e w1 ⟨rfl, hb⟩
    go_wp2_with fail
    go_ret
    exact ⟨rfl, hb⟩
  · obtain ⟨i0, hi, hz0, hz1, hz2⟩ := info_parts Try.infoTy
    have HII := Lib.hid hi
    have Z0 := Lib.hid hz0
    have Z1 := Lib.hid hz1
    have Z2 := Lib.hid hz2
    clear hi hz0 hz1 hz2
    go_enter Try.func11, Try.ntmps11
    go_wp2_with fail
    refine (newT_ok _ none 0 0 [] Reads.none_ rfl (by simp) (by omega) rfl).mono ?_
    rintro e w1 ⟨tb, g1, v1, rfl, hI1, hg1, hb1⟩
    have I1 := Lib.hid hI1
    have B1 := Lib.hid hb1
    have htb := hI1.lo
    clear hI1 hb1
    go_wp2_with fail
    go_loopw [5, 6] (fun tv i wr => ∃ (k g : Nat) (v : Value), k ≤ len ∧ i = .int .i64 (k : Int) ∧ IsTb wr W.heap.size tb g v (tl ts k) ∧ W.heap.size ≤ g ∧ wr.ownsRow W.heap.size 24 3 tv (tl ts k).length ((tl ts k).flatMap tyC) ∧ Hid (tv.ownBlock ≠ some tb ∧ tv.ownBlock ≠ some g) ∧ Below W.heap.size W wr) (fun _ i _ => len - (intOf i).toNat)
    case atStart => exact ⟨0, g1, v1, by omega, rfl, I1.out, hg1, World.ownsRow_nil _ _ _ _, Lib.hid ⟨by simp [Value.ownBlock], by simp [Value.ownBlock]⟩, B1.out⟩
    case round =>
      obtain ⟨k, g, v, hk, rfl, hI, hg, hown, NE, hbl⟩ := hrel
      obtain ⟨wo, rfl⟩ : ∃ wo : World, wo = wr := ⟨_, rfl⟩
      obtain ⟨At, ct, hvt, hct⟩ := own_form hown
      rw [hvt] at hown NE ⊢
      clear hvt
      have hL := hI.hi
      by_cases hlt : k < len
      · obtain ⟨b, o, rfl, hb, d0, d1, d2⟩ := HH.out.r.ty hlt
        have e0 := (hbl.cell (p := ⟨b, o + k * 3, none⟩) hb).trans d0
        have e1 := (hbl.cell (p := ⟨b, o + k * 3 + 1, none⟩) hb).trans d1
        have e2 := (hbl.cell (p := ⟨b, o + k * 3 + 2, none⟩) hb).trans d2
        have hw := HH.out.ok _ (getD_mem ts k (0, 0, 0) (by rw [HH.out.len_]; exact hlt))
        have HT := Lib.hid (tl_succ ts k (by rw [HH.out.len_]; exact hlt))
        generalize ts.getD k (0, 0, 0) = t at *
        obtain ⟨t1, t2, t3⟩ := t
        have D0 := Lib.hid d0
        have D1 := Lib.hid d1
        have D2 := Lib.hid d2
        have HA := Lib.hid (add_any wo W.heap.size tb g v (tl ts k) hI hbl.size t1 t2 t3 ⟨hw.k0, hw.k1⟩ ⟨hw.w0, hw.w1⟩ hw.m1)
        have OWN := Lib.hid hown
        have HB := Lib.hid hbl
        have hsz := hbl.size
        have olt := Lib.hid (fun q e => (hown.lt q e).2)
        clear d0 d1 d2 hbl hw hown hI
        generalize hLL : (tl ts k).length = L at *
        have HL := Lib.hid hLL
        clear hLL
        by_cases hE : addE (tl ts k) (t1, t2, t3) = 0
        · have HE := Lib.hid hE
          have HN := Lib.hid (show addN (tl ts k) (t1, t2, t3) = (L : Int) + 1 by simp [addN, hE, HL.out])
          have HAL := Lib.hid (show tl ts (k + 1) = tl ts k ++ [(t1, t2, t3)] by rw [HT.out, addL, if_pos hE])
          clear hE
          go_wp2_with fail
          refine HA.out.mono ?_
          rintro e w2 ⟨rfl, g', v', hI', hg', hT'⟩
          rw [HE.out, HN.out]
          rw [← HT.out] at hI'
          have hB2 := Below.touch HB.out htb hg (Nat.le_refl _) hT'
          have e0 := (hB2.cell (p := ⟨b, o + k * 3, none⟩) hb).trans D0.out
          have e1 := (hB2.cell (p := ⟨b, o + k * 3 + 1, none⟩) hb).trans D1.out
          have e2 := (hB2.cell (p := ⟨b, o + k * 3 + 2, none⟩) hb).trans D2.out
          have OW2 := Lib.hid (own_touch2 OWN.out NE.out.1 NE.out.2 hT')
          have NE2 := Lib.hid (show (Value.slice At L ct).ownBlock ≠ some tb ∧ (Value.slice At L ct).ownBlock ≠ some g' from ⟨NE.out.1, fun e => by
            rcases hg' with rfl | hg'
            · exact NE.out.2 e
            · have := olt.out g' e; omega⟩)
          have I2 := Lib.hid hI'
          have HB2 := Lib.hid hB2
          have hsz2 := hB2.size
          have hgg : W.heap.size ≤ g' := by omega
          clear hI' hT' hg' hB2
          go_wp2_with (at_builtin; refine wpList_append_any _ rfl (.tmp 45) (.tmp 50) 69 rfl W.heap.size 24 i0 (.agg #[.int .u8 0, .int .i64 0, .int .u64 0]) 3 24 Try.underlying69 HII.out Z0.out Z1.out Z2.out rfl (by decide) (.slice At L ct) L ((tl ts k).flatMap tyC) rfl (OW2.out.alloc _) (w2.heap.size + 1) (some ⟨w2.heap.size, 0, none⟩) 1 1 (tyC (t1, t2, t3)) rfl (ty_new w2 _ t1 t2 t3 rfl (by omega)) (tyC_one t1 t2 t3) (by unfold maxLen; omega) (by omega) (by simp; omega) ?_)
          intro tv3 w3 hown3 hgr3 hat3
          have hB3 : Below W.heap.size W w3 := (HB2.out.alloc hsz2 _).grown hgr3 (by simp; omega) (fun q e => (OW2.out.lt q e).1)
          have I3 := Lib.hid ((I2.out.nx ((Below.refl _ w2).alloc (Nat.le_refl _) _)).grown hgr3 NE2.out.1 NE2.out.2)
          have NE3 := Lib.hid (show tv3.ownBlock ≠ some tb ∧ tv3.ownBlock ≠ some g' by
            rcases hat3 with h | h
            · rw [h]; exact NE2.out
            · rw [h]
              have h1 := I2.out.s.lt
              have h2 := I2.out.glt
              simp
              omega)
          have hlen3 : (tl ts (k + 1)).length = L + 1 := by rw [HAL.out]; simp [HL.out]
          have hown4 : w3.ownsRow W.heap.size 24 3 tv3 (L + 1) ((tl ts (k + 1)).flatMap tyC) := by
            rw [HAL.out, List.flatMap_append]
            simpa using hown3
          have hi3 := I3.out.hi
          rw [hlen3] at hi3
          obtain ⟨At3, ct3, hvt3, hct3⟩ := own_form hown4
          rw [hvt3] at hown4 NE3 ⊢
          have OW3 := Lib.hid hown4
          have HL3 := Lib.hid hlen3
          have HB3 := Lib.hid hB3
          have hsz3 := hB3.size
          clear hown3 hgr3 hat3 hvt3 hown4 hB3 hlen3 e0 e1 e2
          generalize hM : L + 1 = M at *
          have hM2 : (L : Int) + 1 = (M : Int) := by omega
          have hMn : ((L : Int) + 1 != (M : Int)) = false := by simp [hM2]
          have HM := Lib.hid hM
          have HM2 := Lib.hid hM2
          clear hM hM2
          go_wp2_with fail
          clear hMn
          refine (allT_any w3 _ tb g' v' _ I3.out).mono ?_
          rintro e w5 ⟨v5, rfl, hown5, hb5⟩
          rw [HL3.out] at hown5
          obtain ⟨A5, c5, hv5, hc5⟩ := own_form hown5
          rw [hv5] at hown5 ⊢
          have R5 := Lib.hid (Reads.of_own hown5)
          have RT := Lib.hid (Reads.of_own (own_nx OW3.out hb5))
          have OW5 := Lib.hid hown5
          have HB5 := Lib.hid hb5
          clear hown5 hv5 hb5
          go_wp2_with fail
          refine (sameT_any w5 A5 At3 M c5 M ct3 _ _ R5.out RT.out HL3.out HL3.out (by omega) (by omega)).mono ?_
          rintro e w6 ⟨rfl, hb6⟩
          rw [show decide (tl ts (k + 1) = tl ts (k + 1)) = true by simp]
          have HB6 := Lib.hid (bnext HB5.out hb6)
          have OW6 := Lib.hid (own_nx OW5.out hb6)
          clear hb6
          go_wp2_with fail
          go_loopw [10] (fun i wr => ∃ (j : Nat) (xs : List Value), j ≤ M ∧ i = .int .i64 (j : Int) ∧ wr.ownsRow w3.heap.size 24 3 (.slice A5 M c5) M xs ∧ Below w3.heap.size w3 wr) (fun i _ => M - (intOf i).toNat)
          case atStart => exact ⟨0, _, by omega, rfl, OW6.out, HB6.out⟩
          case round =>
            obtain ⟨j, xs, hj, rfl, how, hbj⟩ := hrel
            by_cases hjl : j < M
            · obtain ⟨gA, cA, hvA, hgA⟩ := own_some how (by omega)
              injection hvA with hA1 hA2 hA3
              subst hA1
              have hx : xs.length = M * 3 := how.1
              obtain ⟨u0, k0⟩ : ∃ u, wr.cell? ⟨gA, j * 3, none⟩ = some u := ⟨xs[j * 3]'(by omega), by rw [how.cellAt (j * 3) (by omega)]; exact List.getElem?_eq_getElem _⟩
              obtain ⟨u1, k1⟩ : ∃ u, wr.cell? ⟨gA, j * 3 + 1, none⟩ = some u := ⟨xs[j * 3 + 1]'(by omega), by rw [how.cellAt (j * 3 + 1) (by omega)]; exact List.getElem?_eq_getElem _⟩
              obtain ⟨u2, k2⟩ : ∃ u, wr.cell? ⟨gA, j * 3 + 2, none⟩ = some u := ⟨xs[j * 3 + 2]'(by omega), by rw [how.cellAt (j * 3 + 2) (by omega)]; exact List.getElem?_eq_getElem _⟩
              have f0 := how.frozenAt (j * 3)
              have f1 := how.frozenAt (j * 3 + 1)
              have f2 := how.frozenAt (j * 3 + 2)
              have HO := Lib.hid how
              have HBJ := Lib.hid hbj
              clear how hbj hx
              go_wp2_with fail
              go_roundw
              case rel =>
                exact ⟨j + 1, _, by omega, by go_num, (((HO.out.stored (j * 3) (.int .u8 99)).1.stored (j * 3 + 1) (.int .i64 0)).1.stored (j * 3 + 2) (.int .u64 0)).1, (((HBJ.out.setCell (p := ⟨gA, j * 3, none⟩) hgA _).setCell (p := ⟨gA, j * 3 + 1, none⟩) hgA _).setCell (p := ⟨gA, j * 3 + 2, none⟩) hgA _)⟩
              case measure => simp [intOf]; omega
            · obtain rfl : j = M := by omega
              have HBJ := Lib.hid hbj
              clear hbj how
              go_wp2_with fail
              go_roundw
              case rel =>
                refine ⟨k + 1, g', v', by omega, by go_num, I3.out.nx HBJ.out, hgg, ?_, NE3, bnext HB3.out HBJ.out⟩
                rw [HL3.out]
                exact own_nx OW3.out HBJ.out
              case measure => simp [intOf]; omega
        · have HE := Lib.hid hE
          have hne : (addE (tl ts k) (t1, t2, t3) == 0) = false := by simpa using hE
          have HAL := Lib.hid (show tl ts (k + 1) = tl ts k by rw [HT.out, addL, if_neg hE])
          clear hE
          go_wp2_with fail
          refine HA.out.mono ?_
          rintro e w3 ⟨rfl, g', v', hI', hg', hT'⟩
          rw [← HT.out] at hI'
          have hB3 := Below.touch HB.out htb hg (Nat.le_refl _) hT'
          have OW3 := Lib.hid (show w3.ownsRow W.heap.size 24 3 (.slice At L ct) L ((tl ts (k + 1)).flatMap tyC) by rw [HAL.out]; exact own_touch2 OWN.out NE.out.1 NE.out.2 hT')
          have NE3 := Lib.hid (show (Value.slice At L ct).ownBlock ≠ some tb ∧ (Value.slice At L ct).ownBlock ≠ some g' from ⟨NE.out.1, fun e => by
            rcases hg' with rfl | hg'
            · exact NE.out.2 e
            · have := olt.out g' e; omega⟩)
          have I3 := Lib.hid hI'
          have HB3 := Lib.hid hB3
          have hsz3 := hB3.size
          have hgg : W.heap.size ≤ g' := by omega
          have HL3 := Lib.hid (show (tl ts (k + 1)).length = L by rw [HAL.out]; exact HL.out)
          have hi3 : L ≤ 64 := by have := hI'.hi; rw [HL3.out] at this; exact this
          obtain ⟨At3, hAt3⟩ : ∃ a, At = a := ⟨_, rfl⟩
          obtain ⟨ct3, hct3'⟩ : ∃ a, ct = a := ⟨_, rfl⟩
          obtain ⟨M, hM⟩ : ∃ a, L = a := ⟨_, rfl⟩
          subst hAt3
          subst hct3'
          subst hM
          have hct3 : At = At := rfl
          clear hI' hT' hg' hB3 e0 e1 e2 hct3
          generalize At = At3 at *
          generalize ct = ct3 at *
          generalize L = M at *
          go_wp2_with fail
          refine (allT_any w3 _ tb g' v' _ I3.out).mono ?_
          rintro e w5 ⟨v5, rfl, hown5, hb5⟩
          rw [HL3.out] at hown5
          obtain ⟨A5, c5, hv5, hc5⟩ := own_form hown5
          rw [hv5] at hown5 ⊢
          have R5 := Lib.hid (Reads.of_own hown5)
          have RT := Lib.hid (Reads.of_own (own_nx OW3.out hb5))
          have OW5 := Lib.hid hown5
          have HB5 := Lib.hid hb5
          clear hown5 hv5 hb5
          go_wp2_with fail
          refine (sameT_any w5 A5 At3 M c5 M ct3 _ _ R5.out RT.out HL3.out HL3.out (by omega) (by omega)).mono ?_
          rintro e w6 ⟨rfl, hb6⟩
          rw [show decide (tl ts (k + 1) = tl ts (k + 1)) = true by simp]
          have HB6 := Lib.hid (bnext HB5.out hb6)
          have OW6 := Lib.hid (own_nx OW5.out hb6)
          clear hb6
          go_wp2_with fail
          go_loopw [10] (fun i wr => ∃ (j : Nat) (xs : List Value), j ≤ M ∧ i = .int .i64 (j : Int) ∧ wr.ownsRow w3.heap.size 24 3 (.slice A5 M c5) M xs ∧ Below w3.heap.size w3 wr) (fun i _ => M - (intOf i).toNat)
          case atStart => exact ⟨0, _, by omega, rfl, OW6.out, HB6.out⟩
          case round =>
            obtain ⟨j, xs, hj, rfl, how, hbj⟩ := hrel
            by_cases hjl : j < M
            · obtain ⟨gA, cA, hvA, hgA⟩ := own_some how (by omega)
              injection hvA with hA1 hA2 hA3
              subst hA1
              have hx : xs.length = M * 3 := how.1
              obtain ⟨u0, k0⟩ : ∃ u, wr.cell? ⟨gA, j * 3, none⟩ = some u := ⟨xs[j * 3]'(by omega), by rw [how.cellAt (j * 3) (by omega)]; exact List.getElem?_eq_getElem _⟩
              obtain ⟨u1, k1⟩ : ∃ u, wr.cell? ⟨gA, j * 3 + 1, none⟩ = some u := ⟨xs[j * 3 + 1]'(by omega), by rw [how.cellAt (j * 3 + 1) (by omega)]; exact List.getElem?_eq_getElem _⟩
              obtain ⟨u2, k2⟩ : ∃ u, wr.cell? ⟨gA, j * 3 + 2, none⟩ = some u := ⟨xs[j * 3 + 2]'(by omega), by rw [how.cellAt (j * 3 + 2) (by omega)]; exact List.getElem?_eq_getElem _⟩
              have f0 := how.frozenAt (j * 3)
              have f1 := how.frozenAt (j * 3 + 1)
              have f2 := how.frozenAt (j * 3 + 2)
              have HO := Lib.hid how
              have HBJ := Lib.hid hbj
              clear how hbj hx
              go_wp2_with fail
              go_roundw
              case rel =>
                exact ⟨j + 1, _, by omega, by go_num, (((HO.out.stored (j * 3) (.int .u8 99)).1.stored (j * 3 + 1) (.int .i64 0)).1.stored (j * 3 + 2) (.int .u64 0)).1, (((HBJ.out.setCell (p := ⟨gA, j * 3, none⟩) hgA _).setCell (p := ⟨gA, j * 3 + 1, none⟩) hgA _).setCell (p := ⟨gA, j * 3 + 2, none⟩) hgA _)⟩
              case measure => simp [intOf]; omega
            · obtain rfl : j = M := by omega
              have HBJ := Lib.hid hbj
              clear hbj how
              go_wp2_with fail
              go_roundw
              case rel =>
                refine ⟨k + 1, g', v', by omega, by go_num, I3.out.nx HBJ.out, hgg, ?_, NE3, bnext HB3.out HBJ.out⟩
                rw [HL3.out]
                exact own_nx OW3.out HBJ.out
              case measure => simp [intOf]; omega
      · obtain rfl : k = len := by omega
        have I := Lib.hid hI
        have OWN := Lib.hid hown
        have HB := Lib.hid hbl
        have hsz := hbl.size
        clear hI hown hbl
        generalize hLL : tl ts k = LL at *
        generalize hLn : LL.length = L at *
        have HL := Lib.hid hLn
        clear hLL hLn
        go_wp2_with fail
        go_loopw [11] (fun i wr => ∃ j : Nat, j ≤ L ∧ i = .int .i64 (j : Int) ∧ Below wo.heap.size wo wr) (fun i _ => L - (intOf i).toNat)
        case atStart => exact ⟨0, by omega, rfl, Below.refl _ _⟩
        case round =>
          obtain ⟨j, hj, rfl, hbj⟩ := hrel
          obtain ⟨wi, rfl⟩ : ∃ wi : World, wi = wr := ⟨_, rfl⟩
          by_cases hjl : j < L
          · obtain ⟨bt, ot, rfl, hbt, q0, q1, q2⟩ := (Reads.of_own OWN.out).ty hjl
            have IJ := Lib.hid (I.out.nx hbj)
            have hin : inT LL ((j : Int) + 1) = true := by simp [inT, HL.out]; omega
            have HG := Lib.hid (show getT LL ((j : Int) + 1) = LL.getD j (0, 0, 0) by simp [getT, hin])
            have HE := Lib.hid (show getE LL ((j : Int) + 1) = 0 by simp [getE, hin])
            generalize LL.getD j (0, 0, 0) = t at *
            obtain ⟨t1, t2, t3⟩ := t
            have BJ := Lib.hid hbj
            have Q0 := Lib.hid q0
            have Q1 := Lib.hid q1
            have Q2 := Lib.hid q2
            clear hin hbj q0 q1 q2
            go_wp2_with fail
            refine (get_any wi _ tb g v LL IJ.out ((j : Int) + 1) (by omega) (by omega)).mono ?_
            rintro e w2 ⟨rfl, hb2⟩
            rw [HE.out, HG.out]
            have BJ2 := Lib.hid (bnext BJ.out hb2)
            have BJ3 := Lib.hid (balloc BJ2.out (.cells #[.int .u8 t1, .int .i64 t2, .int .u64 (t3 : Int)] 24))
            have bx := Blk.new w2 24 #[.int .u8 t1, .int .i64 t2, .int .u64 (t3 : Int)]
            obtain ⟨c0, c1, c2⟩ := bx.c3
            have s0 := (BJ3.out.cell (p := ⟨bt, ot + j * 3, none⟩) hbt).trans Q0.out
            have s1 := (BJ3.out.cell (p := ⟨bt, ot + j * 3 + 1, none⟩) hbt).trans Q1.out
            have s2 := (BJ3.out.cell (p := ⟨bt, ot + j * 3 + 2, none⟩) hbt).trans Q2.out
            have j0 : (0 : Int) ≤ (j : Int) := by omega
            have j1 : (j : Int) < (L : Int) := by omega
            clear hb2 bx
            go_wp2_with fail
            go_quiet (fail)
            go_wp2_with fail
            go_roundw
            case rel => exact ⟨j + 1, by omega, by go_num, below_drewN BJ3.out _⟩
            case measure => simp [intOf]; omega
          · obtain rfl : j = L := by omega
            have IJ := Lib.hid (I.out.nx hbj)
            have BJ := Lib.hid (bnext HB.out hbj)
            clear hbj
            go_wp2_with fail
            refine (lenT_any wi _ tb g v LL IJ.out).mono ?_
            rintro e w2 ⟨rfl, hb2⟩
            rw [HL.out]
            have B2 := Lib.hid (bnext BJ.out hb2)
            clear hb2
            go_wp2_with fail
            refine (alive06 _).mono ?_
            rintro e w3 ⟨rfl, hb3⟩
            have B3 := Lib.hid (bnext B2.out hb3)
            go_wp2_with fail
            go_ret
            exact ⟨rfl, B3.out⟩
end Go.Proofs.Ytehicgndccnopaa
