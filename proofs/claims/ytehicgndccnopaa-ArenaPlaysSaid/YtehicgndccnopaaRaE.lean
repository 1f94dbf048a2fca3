/- The law ArenaPlays: the walk. -/
import Derived.Test.YtehicgndccnopaaRaD
import Derived.Test.YtehicgndccnopaaFrameS
namespace Go.Proofs.Ytehicgndccnopaa
open Go.RowKit
set_option linter.unusedVariables false
set_option linter.unusedSimpArgs false

theorem IsRa.base {w : World} {B B' rb : Nat} {v : Value} {ws : List Int} {c : Nat} (h : IsRa w B rb v ws c) (hB : B' ≤ B) : IsRa w B' rb v ws c :=
  ⟨h.s, own_baseA h.r hB, h.lo, h.hi, Nat.le_trans hB h.le⟩
theorem getD_memS {α : Type} (l : List α) (k : Nat) (d : α) (h : k < l.length) : l.getD k d ∈ l := by
  simp [List.getD, h]

set_option maxRecDepth 100000 in
set_option maxHeartbeats 8000000 in
theorem arenaPlays_walk (W : World) (n : Int) (n0 : -9223372036854775808 ≤ n) (n1 : n ≤ 9223372036854775807) (A : Option Addr) (len cap : Nat) (ss : List Stp) (h : StepsIs W A len cap ss) :
    Calls Try.prog 9 #[.int .i64 n, .slice A len cap] W fun e w' => e = .returned (.bool true) ∧ Below W.heap.size W w' := by
  have HH := Lib.hid h
  have hlen : len ≤ 9223372036854775807 := Nat.le_trans h.le h.mx
  clear h
  by_cases hl : 80 < len
  · clear n0 n1
    go_enter Try.func9, Try.ntmps9
    go_wp2_with fail
    refine (alive02 _).mono ?_
    rintro e w1 ⟨rfl, hb⟩
    go_wp2_with fail
    go_ret
    exact ⟨rfl, hb⟩
  by_cases hbig : 600 < n ∧ n ≤ 65536
  · obtain ⟨g1, g2⟩ := hbig
    clear n0 n1
    go_enter Try.func9, Try.ntmps9
    go_wp2_with fail
    refine (alive02 _).mono ?_
    rintro e w1 ⟨rfl, hb⟩
    go_wp2_with fail
    go_ret
    exact ⟨rfl, hb⟩
  cases hm : mayB n
  · have HM := Lib.hid hm
    have hno : n < 16 ∨ 65536 < n ∨ (16 ≤ n ∧ n ≤ 65536 ∧ n % 2 ≠ 0) := by
      simp [mayB] at hm
      rcases (by omega : n < 16 ∨ 65536 < n ∨ (16 ≤ n ∧ n ≤ 65536)) with h | h | ⟨h1, h2⟩
      · exact .inl h
      · exact .inr (.inl h)
      · exact .inr (.inr ⟨h1, h2, by have := hm h1 h2; omega⟩)
    have HN := Lib.hid (fun w => new_no w n n0 n1 hno)
    clear hm hno
    rcases (by omega : n ≤ 600 ∨ (600 < n ∧ 65536 < n)) with h1 | ⟨h1, h2⟩
    all_goals
      clear hbig n0 n1
      go_enter Try.func9, Try.ntmps9
      go_wp2_with fail
      refine (HN.out _).mono ?_
      rintro e w' ⟨rfl, rfl⟩
      go_wp2_with fail
      refine (rmayA_any _ n).mono ?_
      rintro e w' ⟨rfl, rfl⟩
      rw [HM.out]
      go_wp2_with fail
      refine (alive02 _).mono ?_
      rintro e w1 ⟨rfl, hb⟩
      go_wp2_with fail
      go_ret
      exact ⟨rfl, hb⟩
  · have HM := Lib.hid hm
    obtain ⟨⟨m0, m1⟩, m2⟩ : (16 ≤ n ∧ n ≤ 65536) ∧ n % 2 = 0 := by simpa [mayB] using hm
    have m3 : n ≤ 600 := by omega
    obtain ⟨N, rfl⟩ := Int.eq_ofNat_of_zero_le (by omega : 0 ≤ n)
    have M2 := Lib.hid (show N % 2 = 0 by omega)
    have q0 : 16 ≤ N := by omega
    have q1 : N ≤ 600 := by omega
    clear hm hbig n0 n1 m0 m1 m2 m3
    go_enter Try.func9, Try.ntmps9
    go_wp2_with fail
    refine (new_ok _ N q0 (by omega) M2.out).mono ?_
    rintro e w1 ⟨bs, br, rfl, hI, h1, h2, hb⟩
    have I1 := Lib.hid hI
    have B1 := Lib.hid hb
    have hz1 := hb.size
    clear hI hb
    go_wp2_with fail
    refine (rmayA_any _ (N : Int)).mono ?_
    rintro e w' ⟨rfl, rfl⟩
    rw [HM.out]
    go_wp2_with fail
    refine (len_any _ bs br _ [] 0 I1.out).mono ?_
    rintro e w' ⟨rfl, rfl⟩
    rw [List.length_replicate]
    have r0 : ((N : Int) != (N : Int)) = false := by simp
    go_wp2_with fail
    refine (rnewA_any w1 N q0 (by omega)).mono ?_
    rintro e w2 ⟨rb, v, rfl, hR, hb⟩
    have D2 := Lib.hid (show Duo W w2 bs br rb [] v (List.replicate N 0) 0 (List.replicate N 0) 0 from ⟨I1.out.nx hb, hR.base hz1, fun e => by have := (hR.r.lt _ e).1; have := I1.out.r.lt; omega, h1, h2, bnext B1.out hb⟩)
    clear hR hb r0 h1 h2 hz1 I1 B1
    go_wp2_with fail
    go_loopw [5, 8] (fun t i wr => ∃ (k bs br : Nat) (rs : List Value) (v : Value) (ws : List Int) (c : Nat), k ≤ len ∧ t = .pointer (some ⟨bs, 0, none⟩) ∧ i = .int .i64 (k : Int) ∧ Duo W wr bs br rb rs v ws c ws c ∧ c ≤ k * 65536) (fun _ i _ => len - (intOf i).toNat)
    case atStart => exact ⟨0, bs, br, [], v, _, 0, by omega, rfl, rfl, D2.out, by omega⟩
    case round =>
      clear D2
      obtain ⟨k, bs, br, rs, v, ws, c, hk, rfl, rfl, hD, hc⟩ := hrel
      obtain ⟨wo, rfl⟩ : ∃ wo : World, wo = wr := ⟨_, rfl⟩
      by_cases hlt : k < len
      · obtain ⟨b, o, rfl, hb, d0, d1, d2, d3, d4⟩ := HH.out.r.sp hlt
        have hw := HH.out.ok _ (getD_memS ss k (0, 0, 0, 0, 0) (by rw [HH.out.len_]; exact hlt))
        have e0 := (hD.b.cell (p := ⟨b, o + k * 5, none⟩) hb).trans d0
        have e1 := (hD.b.cell (p := ⟨b, o + k * 5 + 1, none⟩) hb).trans d1
        have e2 := (hD.b.cell (p := ⟨b, o + k * 5 + 2, none⟩) hb).trans d2
        have e3 := (hD.b.cell (p := ⟨b, o + k * 5 + 3, none⟩) hb).trans d3
        have e4 := (hD.b.cell (p := ⟨b, o + k * 5 + 4, none⟩) hb).trans d4
        generalize ss.getD k (0, 0, 0, 0, 0) = t at *
        obtain ⟨s0, s1, s2, s3, s4⟩ := t
        have HC := Lib.hid (And.intro d0 (And.intro d1 (And.intro d2 (And.intro d3 d4))))
        have HW := Lib.hid hw
        have D := Lib.hid hD
        have hk1 : (k : Int) < (len : Int) := by omega
        have hk0 : (0 : Int) ≤ (k : Int) := by omega
        clear d0 d1 d2 d3 d4 hw hD
        by_cases hd : s0 = 5
        · subst hd
          go_wp2_with fail
          refine (copy_any wo bs br ws rs c D.out.a).mono ?_
          rintro e w3 ⟨bs2, br2, rs2, rfl, hI2, hs2, hr2, hb3⟩
          have D3 := Lib.hid (D.out.nx hb3)
          have CP := Lib.hid (And.intro hI2 (And.intro hs2 (And.intro hr2 hb3)))
          clear hI2 hs2 hr2 hb3
          go_wp2_with fail
          refine (store_any _ bs br ws rs c D3.out.a 0 77 (by omega) (by omega) (by omega)).mono ?_
          rintro e w4 ⟨rfl, hI4, hT4⟩
          have I4 := Lib.hid hI4
          have T4 := Lib.hid hT4
          have D4 := Lib.hid (D3.out.stepA hI4 hT4)
          have hc4 := stC_le ws 0 c
          have e4' := (D4.out.b.cell (p := ⟨b, o + k * 5 + 4, none⟩) hb).trans HC.out.2.2.2.2
          clear hI4 hT4
          generalize stW ws 0 77 = ws4 at *
          generalize stC ws 0 c = c4 at *
          go_wp2_with fail
          refine (fill_any _ bs br ws4 rs c4 I4.out 2 4 s4 (by omega) (by omega) (by omega) (by omega) (by omega)).mono ?_
          rintro e w5 ⟨rfl, hI5, hT5⟩
          have P := Lib.hid (D.out.copy CP.out.1 CP.out.2.1 CP.out.2.2.1 CP.out.2.2.2 (T4.out.trans hT5))
          clear hI5 hT5 e0 e1 e2 e3 e4 e4' hc4
          generalize hasE ws.length 0 1 = z1
          generalize hasE ws4.length 2 4 = z2
          go_wp2_with fail
          have e0 := (P.out.b.cell (p := ⟨b, o + k * 5, none⟩) hb).trans HC.out.1
          have e1 := (P.out.b.cell (p := ⟨b, o + k * 5 + 1, none⟩) hb).trans HC.out.2.1
          have e2 := (P.out.b.cell (p := ⟨b, o + k * 5 + 2, none⟩) hb).trans HC.out.2.2.1
          have e3 := (P.out.b.cell (p := ⟨b, o + k * 5 + 3, none⟩) hb).trans HC.out.2.2.2.1
          have e4 := (P.out.b.cell (p := ⟨b, o + k * 5 + 4, none⟩) hb).trans HC.out.2.2.2.2
          go_region_with
            (first
              | (go_at_call 40; refine (does_any W _ bs2 br2 rb rs2 v ws c P.out.drew (by omega) 5 s1 s2 s3 s4 HW.out.a0 HW.out.a1 HW.out.t0 HW.out.t1 HW.out.n0 HW.out.n1).mono ?_; rintro e wx ⟨rfl, v2, ws2, c2, hD2, _, hc2⟩; have DX := Lib.hid hD2; have e0 := (DX.out.b.cell (p := ⟨b, o + k * 5, none⟩) hb).trans HC.out.1; have e1 := (DX.out.b.cell (p := ⟨b, o + k * 5 + 1, none⟩) hb).trans HC.out.2.1; have e2 := (DX.out.b.cell (p := ⟨b, o + k * 5 + 2, none⟩) hb).trans HC.out.2.2.1; have e3 := (DX.out.b.cell (p := ⟨b, o + k * 5 + 3, none⟩) hb).trans HC.out.2.2.2.1; have e4 := (DX.out.b.cell (p := ⟨b, o + k * 5 + 4, none⟩) hb).trans HC.out.2.2.2.2; have k1 := DX.out.r.s.c2.2; have r1 : ((c2 : Int) != (c2 : Int)) = false := by simp)
              | (go_at_call 33; refine (writes_any _ bs2 br2 ws2 rs2 c2 DX.out.a).mono ?_; rintro e w' ⟨rfl, rfl⟩))
          all_goals
            clear k1 r1 e0 e1 e2 e3 e4
            go_wp2_with fail
            go_roundw
            case rel => exact ⟨k + 1, bs2, br2, rs2, v2, ws2, c2, by omega, rfl, by go_num, DX.out, by omega⟩
            case measure => simp [intOf]; omega
        · have hd' : (s0 == 5) = false := by simpa using hd
          have hd2 := hd
          clear hd
          obtain ⟨w5, hw5⟩ : ∃ X, wo = X := ⟨_, rfl⟩
          obtain ⟨bs2, h2⟩ : ∃ X, bs = X := ⟨_, rfl⟩
          obtain ⟨br2, h3⟩ : ∃ X, br = X := ⟨_, rfl⟩
          obtain ⟨rs2, h4⟩ : ∃ X, rs = X := ⟨_, rfl⟩
          subst hw5
          subst h2
          subst h3
          subst h4
          have P := D
          clear D hd2
          generalize wo = w5 at *
          generalize bs = bs2 at *
          generalize br = br2 at *
          generalize rs = rs2 at *
          go_wp2_with fail
          have e0 := (P.out.b.cell (p := ⟨b, o + k * 5, none⟩) hb).trans HC.out.1
          have e1 := (P.out.b.cell (p := ⟨b, o + k * 5 + 1, none⟩) hb).trans HC.out.2.1
          have e2 := (P.out.b.cell (p := ⟨b, o + k * 5 + 2, none⟩) hb).trans HC.out.2.2.1
          have e3 := (P.out.b.cell (p := ⟨b, o + k * 5 + 3, none⟩) hb).trans HC.out.2.2.2.1
          have e4 := (P.out.b.cell (p := ⟨b, o + k * 5 + 4, none⟩) hb).trans HC.out.2.2.2.2
          go_region_with
            (first
              | (go_at_call 40; refine (does_any W _ bs2 br2 rb rs2 v ws c P.out.drew (by omega) s0 s1 s2 s3 s4 HW.out.a0 HW.out.a1 HW.out.t0 HW.out.t1 HW.out.n0 HW.out.n1).mono ?_; rintro e wx ⟨rfl, v2, ws2, c2, hD2, _, hc2⟩; have DX := Lib.hid hD2; have e0 := (DX.out.b.cell (p := ⟨b, o + k * 5, none⟩) hb).trans HC.out.1; have e1 := (DX.out.b.cell (p := ⟨b, o + k * 5 + 1, none⟩) hb).trans HC.out.2.1; have e2 := (DX.out.b.cell (p := ⟨b, o + k * 5 + 2, none⟩) hb).trans HC.out.2.2.1; have e3 := (DX.out.b.cell (p := ⟨b, o + k * 5 + 3, none⟩) hb).trans HC.out.2.2.2.1; have e4 := (DX.out.b.cell (p := ⟨b, o + k * 5 + 4, none⟩) hb).trans HC.out.2.2.2.2; have k1 := DX.out.r.s.c2.2; have r1 : ((c2 : Int) != (c2 : Int)) = false := by simp)
              | (go_at_call 33; refine (writes_any _ bs2 br2 ws2 rs2 c2 DX.out.a).mono ?_; rintro e w' ⟨rfl, rfl⟩))
          all_goals
            clear k1 r1 e0 e1 e2 e3 e4
            go_wp2_with fail
            go_roundw
            case rel => exact ⟨k + 1, bs2, br2, rs2, v2, ws2, c2, by omega, rfl, by go_num, DX.out, by omega⟩
            case measure => simp [intOf]; omega
      · obtain rfl : k = len := by omega
        have D := Lib.hid hD
        clear hD
        go_wp2_with fail
        refine (sameA_any W wo bs br rb rs v ws c D.out).mono ?_
        rintro e w5 ⟨rfl, hb5⟩
        have D5 := Lib.hid (D.out.nx hb5)
        clear hb5
        go_wp2_with fail
        refine (alive02 _).mono ?_
        rintro e w6 ⟨rfl, hb6⟩
        have B6 := Lib.hid (bnext D5.out.b hb6)
        go_wp2_with fail
        go_ret
        exact ⟨rfl, B6.out⟩
end Go.Proofs.Ytehicgndccnopaa
