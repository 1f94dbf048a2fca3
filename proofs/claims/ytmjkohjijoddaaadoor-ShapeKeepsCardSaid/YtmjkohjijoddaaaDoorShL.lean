/- Shapes: the document's Make. -/
import Derived.Test.YtmjkohjijoddaaaDoorShK
namespace Go.Proofs.YtmjkohjijoddaaaDoor
open Go.RowKit
set_option linter.unusedVariables false
set_option linter.unusedSimpArgs false

theorem wr_id {x : Int} (h0 : 0 ≤ x) (h1 : x ≤ 9223372036854775807) : wrap64 x = x ∧ IntKind.i64.wrap x = x := by
  constructor
  · simp [wrap64]; omega
  · simp [IntKind.wrap, IntKind.signed, IntKind.bits]; omega

theorem sh_bd {j s m : Nat} (h1 : m ≤ 65536) (h : 2 * j + 2 * s ≤ m) : 0 ≤ 2 * ((j : Int) + s) ∧ 2 * ((j : Int) + s) ≤ 9223372036854775807 := by omega

theorem sh_wr {j s m : Nat} (h1 : m ≤ 65536) (h : 2 * j + 2 * s ≤ m) : (wrap64 (2 * (j : Int)) = 2 * (j : Int) ∧ IntKind.i64.wrap (2 * (j : Int)) = 2 * (j : Int)) ∧ (wrap64 ((j : Int) + s) = (j : Int) + s ∧ IntKind.i64.wrap ((j : Int) + s) = (j : Int) + s) ∧ (wrap64 (2 * ((j : Int) + s)) = 2 * ((j : Int) + s) ∧ IntKind.i64.wrap (2 * ((j : Int) + s)) = 2 * ((j : Int) + s)) :=
  ⟨wr_id (by omega) (by omega), wr_id (by omega) (by omega), wr_id (sh_bd h1 h).1 (sh_bd h1 h).2⟩

/-- What the document's Make gives. -/
def GivesMk (ts : List Ty) (zs : List Int) (g id n : Int) (w : World) (e : Ending) (w' : World) : Prop :=
  ∃ A2 c2, e = .returned (.tuple #[.slice A2 zs.length c2, .int .i64 (mkE ts zs g id n)]) ∧ Reads w' w'.heap.size 1 A2 zs.length ((mkW ts zs g id n).map (Value.int .u64)) ∧ Below w.heap.size w w'

set_option maxRecDepth 100000 in
set_option maxHeartbeats 4000000 in
theorem rmake_any (w : World) (A : Option Addr) (m cp : Nat) (zs : List Int) (hr : Reads w w.heap.size 1 A m (zs.map (Value.int .u64))) (h0 : 16 ≤ m) (h1 : m ≤ 65536)
    (A2 : Option Addr) (n2 c2 : Nat) (ts : List Ty) (hr2 : Reads w w.heap.size 3 A2 n2 (ts.flatMap tyC)) (hl2 : ts.length = n2) (hok : ∀ t ∈ ts, OkW t) (hm2 : n2 ≤ 4095)
    (g id n : Int) (g0 : -9223372036854775808 ≤ g) (g1 : g ≤ 9223372036854775807) (i0 : -9223372036854775808 ≤ id) (i1 : id ≤ 9223372036854775807) :
    Calls Tryd.prog 20 #[.slice A m cp, .slice A2 n2 c2, .int .i64 g, .int .i64 id, .int .i64 n] w (GivesMk ts zs g id n w) := by
  have hl : zs.length = m := by simpa using hr.1
  have HR := Lib.hid hr
  have HO := Lib.hid (refOf_any w A2 n2 c2 ts hr2 hl2 hok (by omega) id n i0 i1)
  have HG : Hid (∀ e w' A3 c3, e = .returned (.tuple #[.slice A3 m c3, .int .i64 (mkE ts zs g id n)]) → Reads w' w'.heap.size 1 A3 m ((mkW ts zs g id n).map (Value.int .u64)) → Below w.heap.size w w' → GivesMk ts zs g id n w e w') := Lib.hid fun e w' A3 c3 h1 h2 h3 => ⟨A3, c3, by rw [hl]; exact h1, by rw [hl]; exact h2, h3⟩
  have hgr : grN zs = (m : Int) / 2 := by unfold grN; rw [hl]
  have t1 : ((m : Int)).tdiv 2 = (m : Int) / 2 := Int.tdiv_eq_ediv_of_nonneg (by omega)
  clear hr hr2
  by_cases hE : szE ts id n = 0
  · obtain ⟨a1, a2, a3, a4, a5, a6⟩ := szG_facts hE
    have HE := Lib.hid hE
    have ho := Lib.hid (okH_ob (ty := id) (ln := n) (sz := szG ts id n) a1 (by omega) a3 (by omega) a5 (by omega))
    have z1 : hT (szE ts id n) = 1 := by simp [hT, hE]
    have z2 : ∀ x, hY (szE ts id n) x = x := fun x => by simp [hY, hE]
    have hD : 8 ≤ (m : Int) / 2 ∧ (m : Int) / 2 ≤ 32768 ∧ 2 * ((m : Int) / 2) ≤ m := by omega
    by_cases hfit : 0 ≤ g ∧ g ≤ grN zs ∧ szG ts id n ≤ grN zs - g
    · have HV : mkE ts zs g id n = 0 := by rw [mkE, if_pos hE, if_pos hfit]
      have HW : mkW ts zs g id n = (fillN zs (2 * g).toNat 0 (2 * szG ts id n).toNat).set (2 * g).toNat (encW 1 id n (szG ts id n)) := by rw [mkW, if_pos HV]
      rw [HV, HW] at HG
      clear HV HW
      rw [hgr] at hfit
      generalize szG ts id n = S at *
      generalize hDD : (m : Int) / 2 = D at *
      obtain ⟨f1, f2, f3⟩ := hfit
      obtain ⟨j, rfl⟩ := Int.eq_ofNat_of_zero_le f1
      obtain ⟨s, rfl⟩ := Int.eq_ofNat_of_zero_le (show 0 ≤ S by omega)
      have k1 : (2 * (j : Int)).toNat = 2 * j := by omega
      have k2 : (2 * (s : Int)).toNat = 2 * s := by omega
      rw [k1, k2] at HG
      clear k1 k2
      have d1 : decide ((j : Int) < 0) = false := by simp
      have d2 : decide (D < (j : Int)) = false := by simpa using f2
      have d3 : decide (D - (j : Int) < (s : Int)) = false := by simpa using f3
      have hfit2 : 2 * j + 2 * s ≤ m := by omega
      have U := Lib.hid (sh_wr h1 hfit2)
      obtain ⟨ii, hi, hz0, hz1, hz2⟩ := info_parts Tryd.infoU64
      have II := Lib.hid hi
      have Z0 := Lib.hid hz0
      have Z1 := Lib.hid hz1
      have Z2 := Lib.hid hz2
      clear hi hz0 hz1 hz2
      go_enter Tryd.func20, Tryd.ntmps20
      go_wp2_with fail
      refine HO.out.mono ?_
      rintro e w1 ⟨rfl, hb⟩
      rw [z1, z2, z2, z2, HE.out]
      have B1 := Lib.hid (balloc hb (.cells #[.int .u8 1, .int .i64 id, .int .i64 n, .int .i64 (s : Int)] 23))
      have X1 := Lib.hid (Blk.new w1 23 #[.int .u8 1, .int .i64 id, .int .i64 n, .int .i64 (s : Int)])
      have R1 := Lib.hid (((HR.out.below hb).more hb.size).alloc (Nat.le_refl _) (.cells #[.int .u8 1, .int .i64 id, .int .i64 n, .int .i64 (s : Int)] 23))
      obtain ⟨c0, c1, c2, c3⟩ := X1.out.c4
      have hz0 := hb.size
      clear hb z1 z2
      have hV : (w1.alloc (.cells #[.int .u8 1, .int .i64 id, .int .i64 n, .int .i64 (s : Int)] 23)).heap.size = w1.heap.size + 1 := by simp
      go_wp2_with (at_builtin; refine wpList_append_any _ rfl _ _ 34 rfl w1.heap.size 24 ii (.int .u64 0) 1 8 Tryd.underlying34 II.out Z0.out Z1.out Z2.out rfl (by decide) _ 0 [] rfl ?c1 w1.heap.size A m cp (zs.map (Value.int .u64)) rfl ?c2 ?c3 ?c4 ?c5 ?c6 ?_)
      case c1 => exact World.ownsRow_nil _ _ _ _
      case c2 => exact R1.out
      case c3 => intro u hu; obtain ⟨z, _, rfl⟩ := List.mem_map.1 hu; rfl
      case c4 => unfold maxLen; omega
      case c5 => omega
      case c6 => simp
      intro v2 w2 hown2 hgr2 hat2
      have hb2 := (Below.refl _ (w1.alloc (.cells #[.int .u8 1, .int .i64 id, .int .i64 n, .int .i64 (s : Int)] 23))).grown hgr2 (Nat.le_refl _) (by simp [Value.ownBlock])
      obtain ⟨gb, rs, hv2, hgb, hbk⟩ := own_bk (n := m) (xs := zs.map (Value.int .u64)) (by simpa using hown2) (by omega)
      rw [hv2]
      have BK := Lib.hid hbk
      have X2 := Lib.hid (X1.out.nx hb2)
      have B2 := Lib.hid (bnext B1.out hb2)
      have hng := Lib.hid (show w1.heap.size ≠ gb from X2.out.ne_ BK.out (by decide))
      have hz1 := B1.out.size
      have hz2 := hz0
      clear hown2 hgr2 hat2 hb2 hv2 hbk c0 c1 c2 c3 X1 B1 R1 hDD hD hgr f2 f3 t1 d1 d2 d3 HO HR
      obtain ⟨⟨u1, u2⟩, ⟨u3, u4⟩, ⟨u5, u6⟩⟩ := U.out
      obtain ⟨N, hN⟩ : ∃ N : Int, N = 2 * ((j : Int) + s) := ⟨_, rfl⟩
      obtain ⟨T, hTT⟩ : ∃ T : Int, T = (j : Int) + s := ⟨_, rfl⟩
      have v3 : wrap64 ((j : Int) + s) = T := by rw [hTT]; exact u3
      have v4 : IntKind.i64.wrap ((j : Int) + s) = T := by rw [hTT]; exact u4
      have v5 : wrap64 (2 * T) = N := by rw [hN, hTT]; exact u5
      have v6 : IntKind.i64.wrap (2 * T) = N := by rw [hN, hTT]; exact u6
      have HN := Lib.hid hN
      have HGB : Hid (w.heap.size ≤ gb) := Lib.hid (Nat.le_trans hz2 hgb)
      have HFIT := Lib.hid hfit2
      have HS1 : Hid (1 ≤ s) := Lib.hid (by omega)
      clear u3 u4 u5 u6 hN hTT U g0 g1 a1 a2 a3 a4 a5 a6 hl2 hm2 h0 i0 i1 hz1 hz2 hgb hok hz0 hV f1 hfit2
      go_wp2_with fail
      go_loopw [15] (fun i wr => ∃ q : Nat, q ≤ 2 * s ∧ i = .int .i64 (((2 * j + q : Nat)) : Int) ∧ Blk wr gb 24 ((fillN zs (2 * j) 0 q).map (Value.int .u64) ++ rs).toArray ∧ Blk wr w1.heap.size 23 #[.int .u8 1, .int .i64 id, .int .i64 n, .int .i64 (s : Int)] ∧ Below w.heap.size w wr) (fun i _ => 2 * j + 2 * s - (intOf i).toNat)
      case atStart => exact ⟨0, Nat.zero_le _, by simp, BK.out, X2.out, B2.out⟩
      case round =>
        obtain ⟨q, hq, rfl, hK, hX, hB⟩ := hrel
        obtain ⟨c0, c1, c2, c3⟩ := hX.c4
        have hfl := fillN_length zs (2 * j) 0 q
        have KK := Lib.hid hK
        have XX := Lib.hid hX
        have BB := Lib.hid hB
        by_cases hlt : q < 2 * s
        · have hpl : 2 * j + q < zs.length := by have := HFIT.out; clear v3 v4 v5 v6 u1 u2; omega
          have hcell : wr.cell? ⟨gb, 2 * j + q, none⟩ = some (.int .u64 ((fillN zs (2 * j) 0 q).getD (2 * j + q) 0)) := by
            rw [hK.cell (2 * j + q)]
            simp [List.getElem?_append, List.getD, hfl, hpl]
          have hfr := hK.frozen (2 * j + q)
          have hlt' : ((2 * j + q : Nat) : Int) < N := by rw [HN.out]; clear v3 v4 v5 v6 u1 u2; omega
          have hlt2 : ((2 * j + q : Nat) : Int) < (m : Int) := by have := HFIT.out; clear v3 v4 v5 v6 u1 u2 hlt'; omega
          have hzl := Lib.hid hpl
          have HQ := Lib.hid hq
          have HLT := Lib.hid hlt
          have HL := Lib.hid hl
          clear hK hX hB hq hlt hfl hl hpl
          generalize (fillN zs (2 * j) 0 q).getD (2 * j + q) 0 = z at *
          generalize hqq : 2 * j + q = p at *
          have HQQ := Lib.hid hqq
          clear hqq
          go_wp2_with fail
          go_roundw
          case rel =>
            refine ⟨q + 1, HLT.out, by rw [← HQQ.out]; go_num, ?_, XX.out.far (p := ⟨gb, p, none⟩) hng.out _, BB.out.setCell (p := ⟨gb, p, none⟩) HGB.out _⟩
            have := KK.out.set_ p (.int .u64 0)
            simpa [fillN, List.map_set, List.set_append, fillN_length, HQQ.out, hzl.out] using this
          case measure => have h3 := HQQ.out; have h4 := HLT.out; simp [intOf]; omega
        · obtain rfl : q = 2 * s := by omega
          have hlt' : ¬ ((2 * j + 2 * s : Nat) : Int) < N := by rw [HN.out]; clear v3 v4 v5 v6 u1 u2; omega
          have hl2j := Lib.hid (show 2 * j < zs.length by have := HFIT.out; have := HS1.out; rw [hl]; omega)
          clear hK hX hB hq hlt
          generalize 2 * j + 2 * s = p at *
          go_wp2_with fail
          refine (refEncode_any 1 id n (s : Int) _).mono ?_
          rintro e w3 ⟨rfl, hb3⟩
          rw [chkH_yes ho.out]
          generalize encW 1 id n (s : Int) = E at *
          have K3 := Lib.hid (KK.out.nx hb3)
          have B3 := Lib.hid (bnext BB.out hb3)
          have hcell : w3.cell? ⟨gb, 2 * j, none⟩ = some (.int .u64 ((fillN zs (2 * j) 0 (2 * s)).getD (2 * j) 0)) := by
            rw [K3.out.cell (2 * j)]
            simp [List.getElem?_append, List.getD, hfl, hl2j.out]
          have hfr := K3.out.frozen (2 * j)
          have hlt2 : 2 * (j : Int) < (m : Int) := by have := hl2j.out; rw [hl] at this; omega
          have hnn : (2 * (j : Int)).toNat = 2 * j := by omega
          clear hb3 KK BB XX c0 c1 c2 c3
          generalize (fillN zs (2 * j) 0 (2 * s)).getD (2 * j) 0 = z at *
          go_wp2_with fail
          go_ret2
          refine HG.out _ _ _ _ rfl ?_ (B3.out.setCell (p := ⟨gb, 2 * j, none⟩) HGB.out _)
          have hk := K3.out.set_ (2 * j) (.int .u64 E)
          refine ⟨by simp [fillN_length, hl], fun _ => ⟨⟨gb, 0, none⟩, rfl, hk.lt, fun t u hu => ?_⟩⟩
          have e : (⟨gb, 0, none⟩ : Addr).add t = ⟨gb, t, none⟩ := by unfold Addr.add; split <;> simp_all
          have ht : t < zs.length := by have := (List.getElem?_eq_some_iff.1 hu).1; simpa [fillN_length] using this
          have h2 := hl2j.out
          have e2 : ((List.map (Value.int .u64) (fillN zs (2 * j) 0 (2 * s)) ++ rs).toArray.setIfInBounds (2 * j) (.int .u64 E)) = (List.map (Value.int .u64) ((fillN zs (2 * j) 0 (2 * s)).set (2 * j) E) ++ rs).toArray := by
            simp [List.map_set, List.set_append, fillN_length, h2]
          rw [e, hk.cell t, e2, ← hu]
          simp only [List.getElem?_toArray]
          rw [List.getElem?_append_left (by simp [fillN_length, ht])]
    · have HV : mkE ts zs g id n = 2 := by rw [mkE, if_pos hE, if_neg hfit]
      have HW : mkW ts zs g id n = zs := by rw [mkW, HV]; rfl
      rw [HV, HW] at HG
      clear HV HW
      rw [hgr] at hfit
      generalize szG ts id n = S at *
      generalize hDD : (m : Int) / 2 = D at *
      have hcs : g < 0 ∨ (0 ≤ g ∧ D < g) ∨ (0 ≤ g ∧ g ≤ D ∧ D - g < S) := by omega
      clear hfit hE
      go_enter Tryd.func20, Tryd.ntmps20
      go_wp2_with fail
      refine HO.out.mono ?_
      rintro e w1 ⟨rfl, hb⟩
      rw [z1, z2, z2, z2, HE.out]
      have X1 := Lib.hid (Blk.new w1 23 #[.int .u8 1, .int .i64 id, .int .i64 n, .int .i64 S])
      have RR := Lib.hid ((((HR.out.below hb).more hb.size).alloc (Nat.le_refl _) (.cells #[.int .u8 1, .int .i64 id, .int .i64 n, .int .i64 S] 23)).more (B' := (w1.alloc (.cells #[.int .u8 1, .int .i64 id, .int .i64 n, .int .i64 S] 23)).heap.size) (by simp))
      have BB := Lib.hid (balloc hb (.cells #[.int .u8 1, .int .i64 id, .int .i64 n, .int .i64 S] 23))
      obtain ⟨c0, c1, c2, c3⟩ := X1.out.c4
      clear hb z1 z2
      rcases hcs with h1 | ⟨h1, h2⟩ | ⟨h1, h2, h3⟩
      · have d1 : decide (g < 0) = true := by simpa using h1
        go_wp2_with fail
        go_ret2
        exact HG.out _ _ _ _ rfl RR.out BB.out
      · have d1 : decide (g < 0) = false := by simpa using h1
        have d2 : decide (D < g) = true := by simpa using h2
        go_wp2_with fail
        go_ret2
        exact HG.out _ _ _ _ rfl RR.out BB.out
      · have d1 : decide (g < 0) = false := by simpa using h1
        have d2 : decide (D < g) = false := by simpa using h2
        have d3 : decide (D - g < S) = true := by simpa using h3
        go_wp2_with fail
        go_ret2
        exact HG.out _ _ _ _ rfl RR.out BB.out
  · have hne : (szE ts id n != 0) = true := by simpa using hE
    have HV : mkE ts zs g id n = szE ts id n := by rw [mkE, if_neg hE]
    have HW : mkW ts zs g id n = zs := by rw [mkW, HV, if_neg hE]
    have z1 : hT (szE ts id n) = 0 := by simp [hT, hE]
    have z2 : ∀ x, hY (szE ts id n) x = 0 := fun x => by simp [hY, hE]
    rw [HV, HW] at HG
    clear hE HV HW
    generalize szE ts id n = S at *
    go_enter Tryd.func20, Tryd.ntmps20
    go_wp2_with fail
    refine HO.out.mono ?_
    rintro e w1 ⟨rfl, hb⟩
    rw [z1, z2, z2, z2]
    go_wp2_with fail
    go_ret2
    exact HG.out _ _ _ _ rfl ((((HR.out.below hb).more hb.size).alloc (Nat.le_refl _) _).more (by simp)) (balloc hb _)
end Go.Proofs.YtmjkohjijoddaaaDoor
