/- The law ShapeKeeps: the walk. -/
import Derived.Test.YtmjkohjijoddaaaDoorShM
import Derived.Test.YtmjkohjijoddaaaDoorFrameT
namespace Go.Proofs.YtmjkohjijoddaaaDoor
open Go.RowKit
set_option linter.unusedVariables false
set_option linter.unusedSimpArgs false

def Z256 : List Int := List.replicate 256 0
theorem z256_ok : WdsOk Z256 := fun u hu => by
  have := List.eq_of_mem_replicate hu
  omega
theorem mkC_le {ts : List Ty} {ws : List Int} {g id n : Int} {c : Nat} : mkC ts ws g id n c ≤ c + 65540 := by
  unfold mkC
  split
  · rename_i h
    have hE : szE ts id n = 0 := by
      unfold mkE at h
      split at h
      · assumption
      · rename_i h2; exact absurd h h2
    have := szG_facts hE
    omega
  · omega
theorem keep_oks {ts : List Ty} {ws : List Int} {g id n : Int} (h : mkE ts ws g id n = 0) : getE ts id = 0 ∧ ofE (getT ts id).1 (getT ts id).2.1 (getT ts id).2.2 n = 0 := by
  have hE : szE ts id n = 0 := by
    unfold mkE at h
    split at h
    · assumption
    · rename_i h2; exact absurd h h2
  unfold szE at hE
  cases hi : inT ts id
  · rw [hi] at hE; cases hE
  · rw [hi, if_pos rfl] at hE
    exact ⟨by simp [getE, hi], hE⟩
theorem wds_set {ws : List Int} (h : WdsOk ws) {v : Int} (hv : 0 ≤ v ∧ v < 18446744073709551616) (p : Nat) : WdsOk (ws.set p v) := fun u hu => by
  rcases List.mem_or_eq_of_mem_set hu with hu | rfl
  · exact h u hu
  · exact hv

theorem row_cell {w : World} {gb : Nat} {ws : List Int} {rs : List Value} {j : Nat} (h : Blk w gb 24 (ws.map (Value.int .u64) ++ rs).toArray) (hj : j < ws.length) : w.cell? ⟨gb, j, none⟩ = some (.int .u64 (ws.getD j 0)) := by
  rw [h.cell j]
  simp [List.getElem?_append, List.getD, hj]
theorem ar_drewN {w : World} {bs br : Nat} {ws : List Int} {rs : List Value} {c : Nat} (h : IsAr w bs br ws rs c) (k : Nat) : IsAr (w.drewN k) bs br ws rs c := h.nx (bdrewN (Below.refl _ w) k)
theorem ar_far {w : World} {bs br gb : Nat} {ws : List Int} {rs : List Value} {c : Nat} (h : IsAr w bs br ws rs c) (h1 : gb ≠ bs) (h2 : gb ≠ br) (j : Nat) (u : Value) : IsAr (w.setCell ⟨gb, j, none⟩ u) bs br ws rs c :=
  ⟨h.s.far (p := ⟨gb, j, none⟩) (Ne.symm h1) u, h.r.far (p := ⟨gb, j, none⟩) (Ne.symm h2) u, h.ne, h.lo, h.hi⟩

set_option maxRecDepth 100000 in
set_option maxHeartbeats 16000000 in
theorem shapeKeeps_walk (W : World) (A : Option Addr) (len cap : Nat) (ts : List Ty) (h : TysIs W A len cap ts) (g : Int) (g0 : -9223372036854775808 ≤ g) (g1 : g ≤ 9223372036854775807) (id : Int) (id0 : -9223372036854775808 ≤ id) (id1 : id ≤ 9223372036854775807) (n : Int) (i0 : -9223372036854775808 ≤ n) (i1 : n ≤ 9223372036854775807)
    (A4 : Option Addr) (n4 c4 : Nat) (ss : List Int) (h4 : RowIs .u8 W A4 n4 c4 ss) (A5 : Option Addr) (n5 c5 : Nat) (zs : List Int) (h5 : RowIs .u64 W A5 n5 c5 zs) (hF : Flds W) :
    Calls Tryd.prog 9 #[.slice A len cap, .int .i64 g, .int .i64 id, .int .i64 n, .slice A4 n4 c4, .slice A5 n5 c5] W fun e w' => e = .returned (.bool true) ∧ Below W.heap.size W w' := by
  have HH := Lib.hid h
  have H4 := Lib.hid h4
  have H5 := Lib.hid h5
  have hlen : len ≤ 9223372036854775807 := Nat.le_trans h.le h.mx
  have hlen4 : n4 ≤ 9223372036854775807 := Nat.le_trans h4.2.1 h4.2.2.1
  have hlen5 : n5 ≤ 9223372036854775807 := Nat.le_trans h5.2.1 h5.2.2.1
  have HF := Lib.hid hF
  have L4 := Lib.hid h4.len_eq
  have L5 := Lib.hid h5.len_eq
  have ID0 := Lib.hid id0
  have ID1 := Lib.hid id1
  have G0 := Lib.hid g0
  have G1 := Lib.hid g1
  clear h h4 h5 id0 id1 i0 i1 g0 g1 hF
  by_cases hl0 : 70 < len
  · go_enter Tryd.func9, Tryd.ntmps9
    go_wp2_with fail
    refine (alive08 _ HF.out).mono ?_
    rintro e w1 ⟨rfl, hb⟩
    go_wp2_with fail
    go_ret
    exact ⟨rfl, hb⟩
  by_cases hl1 : 60 < n4
  · have d0 : decide (70 < (len : Int)) = false := by simp; omega
    go_enter Tryd.func9, Tryd.ntmps9
    go_wp2_with fail
    refine (alive08 _ HF.out).mono ?_
    rintro e w1 ⟨rfl, hb⟩
    go_wp2_with fail
    go_ret
    exact ⟨rfl, hb⟩
  by_cases hl2 : 60 < n5
  · have d0 : decide (70 < (len : Int)) = false := by simp; omega
    have d1 : decide (60 < (n4 : Int)) = false := by simp; omega
    go_enter Tryd.func9, Tryd.ntmps9
    go_wp2_with fail
    refine (alive08 _ HF.out).mono ?_
    rintro e w1 ⟨rfl, hb⟩
    go_wp2_with fail
    go_ret
    exact ⟨rfl, hb⟩
  have d0 : decide (70 < (len : Int)) = false := by simp; omega
  have d1 : decide (60 < (n4 : Int)) = false := by simp; omega
  have d2 : decide (60 < (n5 : Int)) = false := by simp; omega
  have HNT := Lib.hid (fun X (hX : Below W.heap.size W X) => newT_any X A len cap ts ((HH.out.r.below hX).more hX.size) HH.out.len_ HH.out.ok (by omega))
  have HNA := Lib.hid (fun X => new_ok X 256 (by omega) (by omega) (by omega))
  go_enter Tryd.func9, Tryd.ntmps9
  go_wp2_with fail
  refine (HNA.out _).mono ?_
  rintro e w1 ⟨bs, br, rfl, hI, hs, hr, hb⟩
  have I1 : Hid (IsAr w1 bs br Z256 [] 0) := Lib.hid hI
  have B1 := Lib.hid hb
  clear hI hb
  go_wp2_with fail
  refine (HNT.out _ B1.out).mono ?_
  rintro e w2 hg
  by_cases hN : newE [] ts = 0
  rotate_left
  · obtain ⟨rfl, hb⟩ : e = .returned (.tuple #[.pointer none, .int .i64 (newE [] ts)]) ∧ Below w1.heap.size w1 w2 := by
      rcases hg with ⟨_, h1, h2⟩ | ⟨h1, _⟩
      · exact ⟨h1, h2⟩
      · exact absurd h1 hN
    have hne : (newE [] ts != 0) = true := by simpa using hN
    have B2 := Lib.hid (bnext B1.out hb)
    clear hg hb hN I1 B1
    generalize newE [] ts = q at *
    go_wp2_with fail
    refine (alive08 _ (HF.out.nx B2.out)).mono ?_
    rintro e wl ⟨rfl, hb⟩
    go_wp2_with fail
    go_ret
    exact ⟨rfl, bnext B2.out hb⟩
  obtain ⟨tb, tg, tv, rfl, hT, hb⟩ : ∃ tb g v, e = .returned (.tuple #[.pointer (some ⟨tb, 0, none⟩), .int .i64 0]) ∧ IsTb w2 w1.heap.size tb g v ts ∧ Below w1.heap.size w1 w2 := by
    rcases hg with ⟨h1, _⟩ | ⟨_, tb, g, v, h1, h2, _, h3⟩
    · exact absurd hN h1
    · exact ⟨tb, g, v, h1, h2, h3⟩
  have I2 := Lib.hid (I1.out.nx hb)
  have B2 := Lib.hid (bnext B1.out hb)
  have K2 := Lib.hid hT
  clear hg hT hb I1 B1 hN
  go_wp2_with fail
  refine (make_any _ bs br Z256 [] 0 I2.out _ tb tg tv ts K2.out HH.out.ok (HF.out.nx B2.out) (by have := HH.out.len_; omega) (by omega) g id n G0.out G1.out ID0.out ID1.out).mono ?_
  rintro e w3 ⟨rfl, hI, hT⟩
  have I3 := Lib.hid hI
  have K3 := Lib.hid (K2.out.touchA I2.out hT)
  have B3 := Lib.hid (btouchA B2.out hs hr hT)
  clear hI hT I2 K2 B2
  by_cases hE : mkE ts Z256 g id n = 0
  rotate_left
  · have hne : (mkE ts Z256 g id n != 0) = true := by simpa using hE
    clear hE I3
    generalize mkE ts Z256 g id n = q at *
    go_wp2_with fail
    refine (alive08 _ (HF.out.nx B3.out)).mono ?_
    rintro e wl ⟨rfl, hb⟩
    go_wp2_with fail
    go_ret
    exact ⟨rfl, bnext B3.out hb⟩
  have MF := Lib.hid (mk_facts (ts := ts) (ws := Z256) (g := g) (id := id) (n := n) (by have := HH.out.len_; omega) z256_ok (by simp [Z256]) hE)
  have KO := Lib.hid (keep_oks hE)
  have WL := Lib.hid (show (mkW ts Z256 g id n).length = 256 by rw [mkW_len]; simp [Z256])
  have HC := Lib.hid (mkC_le (ts := ts) (ws := Z256) (g := g) (id := id) (n := n) (c := 0))
  rw [hE]
  clear hE
  generalize mkW ts Z256 g id n = Wd at *
  generalize mkC ts Z256 g id n 0 = C0 at *
  go_wp2_with fail
  refine (shOf_any _ bs br _ [] _ I3.out _ tb tg tv ts K3.out HH.out.ok (HF.out.nx B3.out) MF.out.ok g G0.out G1.out).mono ?_
  rintro e w4 ⟨hg, hb⟩
  obtain ⟨vb, rfl, hV⟩ : ∃ vb, e = .returned (.tuple #[.pointer (some ⟨vb, 0, none⟩), .int .i64 0]) ∧ IsVw w4 vb bs g 1 id n (szG ts id n) (getT ts id) := by
    rcases hg with ⟨h, _⟩ | ⟨_, vb, h1, h2, h3⟩
    · exact absurd MF.out.o h
    · rw [MF.out.t, MF.out.y, MF.out.l, MF.out.s] at h2
      exact ⟨vb, h1, h2⟩
  have I4 := Lib.hid (I3.out.nx hb)
  have V4 := Lib.hid hV
  have B4 := Lib.hid (bnext B3.out hb)
  have gl := MF.out.g0
  have gh := MF.out.g1
  have GF := Lib.hid (show 2 * g + 1 + vwN (getT ts id) n ≤ 256 by have := MF.out.fit; have := WL.out; omega)
  have GN := Lib.hid MF.out.n1
  have GL := Lib.hid gl
  have GU := Lib.hid gh
  have WO := Lib.hid MF.out.ok
  have OX := Lib.hid (getT_ok HH.out.ok id)
  have KG := Lib.hid KO.out.1
  have KE := Lib.hid KO.out.2
  clear hg hb hV I3 K3 B3 MF KO gl gh HNT HNA
  generalize szG ts id n = SZ at *
  generalize hX : getT ts id = X at *
  have HX := Lib.hid hX
  clear hX
  go_wp2_with fail
  go_loopw [19] (fun i wr => ∃ (k : Nat) (ws : List Int) (c : Nat), k ≤ n4 ∧ k ≤ n5 ∧ i = .int .i64 (k : Int) ∧ IsAr wr bs br ws [] c ∧ WdsOk ws ∧ ws.length = 256 ∧ c ≤ 65540 + k ∧ IsVw wr vb bs g 1 id n SZ X ∧ Below W.heap.size W wr) (fun i _ => n4 - (intOf i).toNat)
  case atStart => exact ⟨0, Wd, C0, Nat.zero_le _, Nat.zero_le _, rfl, I4.out, WO.out, WL.out, by have := HC.out; omega, V4.out, B4.out⟩
  case round =>
    obtain ⟨k, ws, c, hk4, hk5, rfl, hI, hWO, hWL, hC, hV, hB⟩ := hrel
    have I1 := Lib.hid hI
    have V1 := Lib.hid hV
    have B1 := Lib.hid hB
    have WO1 := Lib.hid hWO
    have WL1 := Lib.hid hWL
    have HC1 := Lib.hid hC
    clear hI hV hB hWO hWL hC I4 V4 B4 WO WL
    by_cases q1 : k < n4
    rotate_left
    · skip
      go_wp2_with fail
      refine (rget_any _ A len cap ts ((HH.out.r.below B1.out).more B1.out.size) HH.out.len_ (by omega) id ID0.out ID1.out).mono ?_
      rintro e w5 ⟨rfl, hb⟩
      rw [HX.out, KG.out]
      have I5 := Lib.hid ((I1.out.nx hb).alloc (.cells #[.int .u8 X.1, .int .i64 X.2.1, .int .u64 (X.2.2 : Int)] 72))
      have V5 := Lib.hid (Blk.alloc (V1.out.nx hb) (.cells #[.int .u8 X.1, .int .i64 X.2.1, .int .u64 (X.2.2 : Int)] 72))
      have B5 := Lib.hid (balloc (bnext B1.out hb) (.cells #[.int .u8 X.1, .int .i64 X.2.1, .int .u64 (X.2.2 : Int)] 72))
      have bT := Blk.new w5 72 #[.int .u8 X.1, .int .i64 X.2.1, .int .u64 (X.2.2 : Int)]
      obtain ⟨t0, t1, t2⟩ := bT.c3
      have HRR := Lib.hid (fun w => rrefs_any X.1 X.2.1 X.2.2 n w ⟨OX.out.k0, OX.out.k1⟩ ⟨OX.out.w0, OX.out.w1⟩ OX.out.m1)
      have TV := Lib.hid (show tgV X n ws g = tgL ((refsR X.1 X.2.1 X.2.2 n).map fun s => (s, slV X n ws g s)) from rfl)
      have RL := Lib.hid (refsR_le X.1 X.2.1 X.2.2 n)
      rw [KE.out] at HRR
      clear hb I1 V1 B1
      generalize refsR X.1 X.2.1 X.2.2 n = RS at *
      go_wp2_with fail
      refine (HRR.out _).mono ?_
      rintro e w6 ⟨A7, m7, c7, rfl, hr7, hc7, hb⟩
      have l7 := Lib.hid (show RS.length = m7 by have := hr7.1; simpa using this)
      have I6 := Lib.hid (I5.out.nx hb)
      have V6 := Lib.hid (V5.out.nx hb)
      have B6 := Lib.hid (bnext B5.out hb)
      have R6 := Lib.hid hr7
      have hm7 : m7 ≤ 65536 := by have := RL.out; have := l7.out; omega
      clear hr7 hb I5 V5 B5 t0 t1 t2 bT hc7
      obtain ⟨ii, hi, hz0, hz1, hz2⟩ := info_parts Tryd.infoU64
      have II := Lib.hid hi
      have Z0 := Lib.hid hz0
      have Z1 := Lib.hid hz1
      have Z2 := Lib.hid hz2
      clear hi hz0 hz1 hz2
      go_wp2_with fail
      go_loopw [31, 32] (fun out i wr => ∃ q : Nat, q ≤ m7 ∧ i = .int .i64 (q : Int) ∧ wr.ownsRow w6.heap.size 24 1 out (tgL ((RS.take q).map fun s => (s, slV X n ws g s))).length ((tgL ((RS.take q).map fun s => (s, slV X n ws g s))).map (Value.int .u64)) ∧ Below w6.heap.size w6 wr) (fun _ i _ => m7 - (intOf i).toNat)
      case atStart => exact ⟨0, Nat.zero_le _, rfl, by simpa [tgL] using World.ownsRow_nil _ _ _ _, Below.refl _ _⟩
      case round =>
        obtain ⟨q, hq, rfl, hown, hbl⟩ := hrel
        by_cases hlt : q < m7
        · obtain ⟨b7, o7, rfl, hb7, hcc7⟩ := R6.out.spotN (by omega) (by omega)
          have c7c : wr.cell? ⟨b7, o7 + q, none⟩ = some (.int .i64 (RS.getD q 0)) := (hbl.cell (p := ⟨b7, o7 + q, none⟩) hb7).trans (hcc7 q _ (by simp [List.getD, l7.out, hlt]))
          have HT := Lib.hid (show (RS.take (q + 1)).map (fun s => (s, slV X n ws g s)) = (RS.take q).map (fun s => (s, slV X n ws g s)) ++ [(RS.getD q 0, slV X n ws g (RS.getD q 0))] by
            have hq7 : q < RS.length := by rw [l7.out]; exact hlt
            have e7 : RS.getD q 0 = RS[q] := by simp [List.getD, hq7]
            rw [List.take_add_one, List.getElem?_eq_getElem hq7, Option.toList_some, List.map_append, e7]
            rfl)
          have HTL := Lib.hid (show (tgL ((RS.take q).map fun s => (s, slV X n ws g s))).length ≤ 65536 from Nat.le_trans (tgL_le _) (by simp; omega))
          have OWN := Lib.hid hown
          have BL := Lib.hid hbl
          clear hown hbl hcc7
          generalize RS.getD q 0 = r at *
          go_wp2_with fail
          refine (vLoad_any _ vb bs g 1 id n SZ X (V6.out.nx BL.out) OX.out br ws [] c (I6.out.nx BL.out) GL.out GU.out GN.out (by rw [WL1.out]; have := GF.out; omega) r).mono ?_
          rintro e w7 ⟨rfl, hb⟩
          have OWN7 := Lib.hid (own_nx OWN.out hb)
          have BL7 := Lib.hid (bnext BL.out hb)
          clear hb OWN BL c7c
          generalize (if slIn X n r then (0 : Int) else 2) = er at *
          obtain ⟨y, hy⟩ : ∃ y, slV X n ws g r = y := ⟨_, rfl⟩
          rw [hy] at HT
          rw [hy]
          by_cases hy0 : y = 0
          · have r1 : (y != 0) = false := by simpa using hy0
            have HY := Lib.hid hy
            have HY0 := Lib.hid hy0
            clear hy hy0
            go_wp2_with fail
            go_roundw
            case rel => exact ⟨q + 1, by omega, by go_num, by rw [HT.out, tgL_miss _ HY0.out]; exact OWN7.out, BL7.out⟩
            case measure => simp [intOf]; omega
          · have r1 : (y != 0) = true := by simpa using hy0
            have HY := Lib.hid hy
            have HY0 := Lib.hid hy0
            have HB7 := Lib.hid BL7.out.size
            clear hy hy0
            go_wp2_with (at_builtin; refine wpList_append_own _ rfl _ _ 34 rfl w6.heap.size 24 ii (.int .u64 0) 1 8 Tryd.underlying34 II.out Z0.out Z1.out Z2.out rfl (by decide) _ _ _ rfl (OWN7.out.alloc _) ⟨w7.heap.size, 0, none⟩ 1 1 [.int .u64 y] rfl rfl ?c1 ?c2 ?c3 ?c4 ?c5 ?_)
            case c1 => exact cell_one_new _ _ _
            case c2 => simp [Value.oneCell']
            case c3 => have := HTL.out; unfold maxLen; omega
            case c4 => have := HTL.out; omega
            case c5 => have := HB7.out; simp; omega
            intro v' w8 hown' hgrow _
            have BL8 := Lib.hid ((BL7.out.alloc HB7.out _).grown hgrow (by have := HB7.out; simp; omega) (fun k e => (OWN7.out.lt k e).1))
            have OWN8 := Lib.hid hown'
            clear hown' hgrow OWN7 BL7
            go_wp2_with fail
            go_roundw
            case rel => exact ⟨q + 1, by omega, by go_num, by rw [HT.out, tgL_hit _ HY0.out]; simpa using OWN8.out, BL8.out⟩
            case measure => simp [intOf]; omega
        · obtain rfl : q = m7 := by omega
          have ht : RS.take q = RS := List.take_of_length_le (by rw [l7.out]; omega)
          rw [ht, ← TV.out] at hown
          obtain ⟨Aw, cw, rfl, _⟩ := own_form hown
          have OWN := Lib.hid hown
          have BL := Lib.hid hbl
          have I7 := Lib.hid (I6.out.nx hbl)
          have V7 := Lib.hid (V6.out.nx hbl)
          have B7 := Lib.hid (bnext B6.out hbl)
          have TL := Lib.hid (show (tgV X n ws g).length ≤ 65536 by rw [TV.out]; exact Nat.le_trans (tgL_le _) (by simp; have := l7.out; omega))
          clear hown hbl ht I6 V6 B6
          go_wp2_with fail
          refine (targets_any _ vb bs br g 1 id n SZ X ws [] c V7.out OX.out I7.out GL.out GU.out GN.out (by rw [WL1.out]; have := GF.out; omega)).mono ?_
          rintro e w8 ⟨v, rfl, ho, hb⟩
          obtain ⟨At, ct, rfl, _⟩ := own_form ho
          have OT := Lib.hid (Reads.of_own ho)
          have OW := Lib.hid ((Reads.of_own OWN.out).below hb |>.more hb.size)
          have B8 := Lib.hid (bnext B7.out hb)
          clear ho hb
          go_wp2_with fail
          refine (sameW_any _ At Aw _ ct _ cw (tgV X n ws g) (tgV X n ws g) OT.out OW.out (by have := TL.out; omega) (by have := TL.out; omega)).mono ?_
          rintro e w9 ⟨rfl, hb⟩
          rw [show decide (tgV X n ws g = tgV X n ws g) = true by simp]
          have B9 := Lib.hid (bnext B8.out hb)
          clear hb
          go_wp2_with fail
          refine (alive08 _ (HF.out.nx B9.out)).mono ?_
          rintro e wl ⟨rfl, hb⟩
          go_wp2_with fail
          go_ret
          exact ⟨rfl, bnext B9.out hb⟩
    by_cases q2 : k < n5
    rotate_left
    · skip
      go_wp2_with fail
      refine (rget_any _ A len cap ts ((HH.out.r.below B1.out).more B1.out.size) HH.out.len_ (by omega) id ID0.out ID1.out).mono ?_
      rintro e w5 ⟨rfl, hb⟩
      rw [HX.out, KG.out]
      have I5 := Lib.hid ((I1.out.nx hb).alloc (.cells #[.int .u8 X.1, .int .i64 X.2.1, .int .u64 (X.2.2 : Int)] 72))
      have V5 := Lib.hid (Blk.alloc (V1.out.nx hb) (.cells #[.int .u8 X.1, .int .i64 X.2.1, .int .u64 (X.2.2 : Int)] 72))
      have B5 := Lib.hid (balloc (bnext B1.out hb) (.cells #[.int .u8 X.1, .int .i64 X.2.1, .int .u64 (X.2.2 : Int)] 72))
      have bT := Blk.new w5 72 #[.int .u8 X.1, .int .i64 X.2.1, .int .u64 (X.2.2 : Int)]
      obtain ⟨t0, t1, t2⟩ := bT.c3
      have HRR := Lib.hid (fun w => rrefs_any X.1 X.2.1 X.2.2 n w ⟨OX.out.k0, OX.out.k1⟩ ⟨OX.out.w0, OX.out.w1⟩ OX.out.m1)
      have TV := Lib.hid (show tgV X n ws g = tgL ((refsR X.1 X.2.1 X.2.2 n).map fun s => (s, slV X n ws g s)) from rfl)
      have RL := Lib.hid (refsR_le X.1 X.2.1 X.2.2 n)
      rw [KE.out] at HRR
      clear hb I1 V1 B1
      generalize refsR X.1 X.2.1 X.2.2 n = RS at *
      go_wp2_with fail
      refine (HRR.out _).mono ?_
      rintro e w6 ⟨A7, m7, c7, rfl, hr7, hc7, hb⟩
      have l7 := Lib.hid (show RS.length = m7 by have := hr7.1; simpa using this)
      have I6 := Lib.hid (I5.out.nx hb)
      have V6 := Lib.hid (V5.out.nx hb)
      have B6 := Lib.hid (bnext B5.out hb)
      have R6 := Lib.hid hr7
      have hm7 : m7 ≤ 65536 := by have := RL.out; have := l7.out; omega
      clear hr7 hb I5 V5 B5 t0 t1 t2 bT hc7
      obtain ⟨ii, hi, hz0, hz1, hz2⟩ := info_parts Tryd.infoU64
      have II := Lib.hid hi
      have Z0 := Lib.hid hz0
      have Z1 := Lib.hid hz1
      have Z2 := Lib.hid hz2
      clear hi hz0 hz1 hz2
      go_wp2_with fail
      go_loopw [31, 32] (fun out i wr => ∃ q : Nat, q ≤ m7 ∧ i = .int .i64 (q : Int) ∧ wr.ownsRow w6.heap.size 24 1 out (tgL ((RS.take q).map fun s => (s, slV X n ws g s))).length ((tgL ((RS.take q).map fun s => (s, slV X n ws g s))).map (Value.int .u64)) ∧ Below w6.heap.size w6 wr) (fun _ i _ => m7 - (intOf i).toNat)
      case atStart => exact ⟨0, Nat.zero_le _, rfl, by simpa [tgL] using World.ownsRow_nil _ _ _ _, Below.refl _ _⟩
      case round =>
        obtain ⟨q, hq, rfl, hown, hbl⟩ := hrel
        by_cases hlt : q < m7
        · obtain ⟨b7, o7, rfl, hb7, hcc7⟩ := R6.out.spotN (by omega) (by omega)
          have c7c : wr.cell? ⟨b7, o7 + q, none⟩ = some (.int .i64 (RS.getD q 0)) := (hbl.cell (p := ⟨b7, o7 + q, none⟩) hb7).trans (hcc7 q _ (by simp [List.getD, l7.out, hlt]))
          have HT := Lib.hid (show (RS.take (q + 1)).map (fun s => (s, slV X n ws g s)) = (RS.take q).map (fun s => (s, slV X n ws g s)) ++ [(RS.getD q 0, slV X n ws g (RS.getD q 0))] by
            have hq7 : q < RS.length := by rw [l7.out]; exact hlt
            have e7 : RS.getD q 0 = RS[q] := by simp [List.getD, hq7]
            rw [List.take_add_one, List.getElem?_eq_getElem hq7, Option.toList_some, List.map_append, e7]
            rfl)
          have HTL := Lib.hid (show (tgL ((RS.take q).map fun s => (s, slV X n ws g s))).length ≤ 65536 from Nat.le_trans (tgL_le _) (by simp; omega))
          have OWN := Lib.hid hown
          have BL := Lib.hid hbl
          clear hown hbl hcc7
          generalize RS.getD q 0 = r at *
          go_wp2_with fail
          refine (vLoad_any _ vb bs g 1 id n SZ X (V6.out.nx BL.out) OX.out br ws [] c (I6.out.nx BL.out) GL.out GU.out GN.out (by rw [WL1.out]; have := GF.out; omega) r).mono ?_
          rintro e w7 ⟨rfl, hb⟩
          have OWN7 := Lib.hid (own_nx OWN.out hb)
          have BL7 := Lib.hid (bnext BL.out hb)
          clear hb OWN BL c7c
          generalize (if slIn X n r then (0 : Int) else 2) = er at *
          obtain ⟨y, hy⟩ : ∃ y, slV X n ws g r = y := ⟨_, rfl⟩
          rw [hy] at HT
          rw [hy]
          by_cases hy0 : y = 0
          · have r1 : (y != 0) = false := by simpa using hy0
            have HY := Lib.hid hy
            have HY0 := Lib.hid hy0
            clear hy hy0
            go_wp2_with fail
            go_roundw
            case rel => exact ⟨q + 1, by omega, by go_num, by rw [HT.out, tgL_miss _ HY0.out]; exact OWN7.out, BL7.out⟩
            case measure => simp [intOf]; omega
          · have r1 : (y != 0) = true := by simpa using hy0
            have HY := Lib.hid hy
            have HY0 := Lib.hid hy0
            have HB7 := Lib.hid BL7.out.size
            clear hy hy0
            go_wp2_with (at_builtin; refine wpList_append_own _ rfl _ _ 34 rfl w6.heap.size 24 ii (.int .u64 0) 1 8 Tryd.underlying34 II.out Z0.out Z1.out Z2.out rfl (by decide) _ _ _ rfl (OWN7.out.alloc _) ⟨w7.heap.size, 0, none⟩ 1 1 [.int .u64 y] rfl rfl ?c1 ?c2 ?c3 ?c4 ?c5 ?_)
            case c1 => exact cell_one_new _ _ _
            case c2 => simp [Value.oneCell']
            case c3 => have := HTL.out; unfold maxLen; omega
            case c4 => have := HTL.out; omega
            case c5 => have := HB7.out; simp; omega
            intro v' w8 hown' hgrow _
            have BL8 := Lib.hid ((BL7.out.alloc HB7.out _).grown hgrow (by have := HB7.out; simp; omega) (fun k e => (OWN7.out.lt k e).1))
            have OWN8 := Lib.hid hown'
            clear hown' hgrow OWN7 BL7
            go_wp2_with fail
            go_roundw
            case rel => exact ⟨q + 1, by omega, by go_num, by rw [HT.out, tgL_hit _ HY0.out]; simpa using OWN8.out, BL8.out⟩
            case measure => simp [intOf]; omega
        · obtain rfl : q = m7 := by omega
          have ht : RS.take q = RS := List.take_of_length_le (by rw [l7.out]; omega)
          rw [ht, ← TV.out] at hown
          obtain ⟨Aw, cw, rfl, _⟩ := own_form hown
          have OWN := Lib.hid hown
          have BL := Lib.hid hbl
          have I7 := Lib.hid (I6.out.nx hbl)
          have V7 := Lib.hid (V6.out.nx hbl)
          have B7 := Lib.hid (bnext B6.out hbl)
          have TL := Lib.hid (show (tgV X n ws g).length ≤ 65536 by rw [TV.out]; exact Nat.le_trans (tgL_le _) (by simp; have := l7.out; omega))
          clear hown hbl ht I6 V6 B6
          go_wp2_with fail
          refine (targets_any _ vb bs br g 1 id n SZ X ws [] c V7.out OX.out I7.out GL.out GU.out GN.out (by rw [WL1.out]; have := GF.out; omega)).mono ?_
          rintro e w8 ⟨v, rfl, ho, hb⟩
          obtain ⟨At, ct, rfl, _⟩ := own_form ho
          have OT := Lib.hid (Reads.of_own ho)
          have OW := Lib.hid ((Reads.of_own OWN.out).below hb |>.more hb.size)
          have B8 := Lib.hid (bnext B7.out hb)
          clear ho hb
          go_wp2_with fail
          refine (sameW_any _ At Aw _ ct _ cw (tgV X n ws g) (tgV X n ws g) OT.out OW.out (by have := TL.out; omega) (by have := TL.out; omega)).mono ?_
          rintro e w9 ⟨rfl, hb⟩
          rw [show decide (tgV X n ws g = tgV X n ws g) = true by simp]
          have B9 := Lib.hid (bnext B8.out hb)
          clear hb
          go_wp2_with fail
          refine (alive08 _ (HF.out.nx B9.out)).mono ?_
          rintro e wl ⟨rfl, hb⟩
          go_wp2_with fail
          go_ret
          exact ⟨rfl, bnext B9.out hb⟩
    obtain ⟨b4, o4, rfl, hb4, hc4⟩ := H4.out.1.spotN (by omega) (by omega)
    obtain ⟨b5, o5, rfl, hb5, hc5⟩ := H5.out.1.spotN (by omega) (by omega)
    have hl4 : k < ss.length := by rw [L4.out]; exact q1
    have hl5 : k < zs.length := by rw [L5.out]; exact q2
    have e4 : wr.cell? ⟨b4, o4 + k, none⟩ = some (.int .u8 (ss.getD k 0)) := (B1.out.cell (p := ⟨b4, o4 + k, none⟩) hb4).trans (hc4 k _ (by simp [List.getD, hl4]))
    have Z5 := Lib.hid (hc5 k (.int .u64 (zs.getD k 0)) (by simp [List.getD, hl5]))
    have s0 := wf_u8 (H4.out.2.2.2 (ss.getD k 0) (by simp [List.getD, hl4]))
    have HZ := Lib.hid (wf_u64 (H5.out.2.2.2 (zs.getD k 0) (by simp [List.getD, hl5])))
    clear hc4 hc5 hl4 hl5
    generalize ss.getD k 0 = s at *
    generalize zs.getD k 0 = z at *
    have HS := Lib.hid s0
    have ws1 : IntKind.i64.wrap s = s := by simp [IntKind.wrap, IntKind.signed, IntKind.bits]; omega
    clear s0
    go_wp2_with fail
    cases hi : slIn X n s
    · have HI := Lib.hid hi
      have HIN := Lib.hid (show ¬ s < vwN X n by have h9 := hi; simp only [slIn, decide_eq_false_iff_not] at h9; have := HS.out; omega)
      clear hi
      refine (words08 _ bs br ws [] c I1.out).mono ?_
      rintro e w5 ⟨A6, c6, rfl, ho, hb⟩
      rw [WL1.out] at ho
      obtain ⟨gb, rs6, hv6, hgb, hbk⟩ := own_bk ho (by omega)
      obtain ⟨rfl, rfl⟩ : A6 = some ⟨gb, 0, none⟩ ∧ c6 = 256 + rs6.length := by injection hv6 with h1 _ h2; exact ⟨h1, h2⟩
      have I5 := Lib.hid (I1.out.nx hb)
      have V5 := Lib.hid (V1.out.nx hb)
      have B5 := Lib.hid (bnext B1.out hb)
      have K5 := Lib.hid hbk
      have hbr := I1.out.r.lt
      have hbs := I1.out.s.lt
      have HNB := Lib.hid (show gb ≠ bs ∧ gb ≠ br ∧ W.heap.size ≤ gb from ⟨by omega, by omega, Nat.le_trans B1.out.size hgb⟩)
      have e5 : w5.cell? ⟨b5, o5 + k, none⟩ = some (.int .u64 z) := (B5.out.cell (p := ⟨b5, o5 + k, none⟩) hb5).trans Z5.out
      have hz5 := Lib.hid hgb
      clear ho hb hv6 hgb hbk hbr hbs I1 V1 B1 e4
      rw [WL1.out]
      go_wp2_with fail
      refine (vStore_any _ vb bs g 1 id n SZ X V5.out OX.out br ws [] c I5.out GL.out GU.out GN.out (by rw [WL1.out]; have := GF.out; omega) s z (by have := HC1.out; omega)).mono ?_
      rintro e w6 ⟨rfl, hI, hT⟩
      rw [HI.out]
      rw [show ssW X n ws g s z = ws by simp [ssW, HI.out], show ssC X n c s = c by simp [ssC, HI.out]] at hI
      have WL2 := WL1
      have WO2 := WO1
      have HC2 := Lib.hid (show c ≤ 65540 + (k + 1) by have := HC1.out; omega)
      have I6 := Lib.hid hI
      have V6 : Hid (IsVw w6 vb bs g 1 id n SZ X) := Lib.hid (Blk.touch V5.out hT (Blk.ne_ V5.out I5.out.s (by decide)) (Blk.ne_ V5.out I5.out.r (by decide)))
      have K6 := Lib.hid (K5.out.touch hT HNB.out.1 HNB.out.2.1)
      have B6 := Lib.hid (btouchA B5.out hs hr hT)
      clear hI hT I5 V5 B5 K5 e5
      rw [if_neg (by decide)]
      go_wp2_with fail
      refine (words08 _ bs br ws [] c I6.out).mono ?_
      rintro e w7 ⟨A8, c8, rfl, ho, hb⟩
      rw [WL2.out] at ho
      obtain ⟨gn, rs8, hv8, hgn, hbk⟩ := own_bk ho (by omega)
      obtain ⟨rfl, rfl⟩ : A8 = some ⟨gn, 0, none⟩ ∧ c8 = 256 + rs8.length := by injection hv8 with h1 _ h2; exact ⟨h1, h2⟩
      rw [WL2.out]
      have I7 := Lib.hid (I6.out.nx hb)
      have V7 := Lib.hid (V6.out.nx hb)
      have B7 := Lib.hid (bnext B6.out hb)
      have K7 := Lib.hid (K6.out.nx hb)
      have N7 := Lib.hid hbk
      have HGN := Lib.hid (show gb ≠ gn from by have := K6.out.lt; omega)
      clear ho hb hv8 hgn hbk I6 V6 B6 K6
      go_wp2_with fail
      refine (vSlots_any _ vb bs g 1 id n SZ X V7.out OX.out).mono ?_
      rintro e w8 ⟨rfl, hb⟩
      have I8 := Lib.hid (I7.out.nx hb)
      have V8 := Lib.hid (V7.out.nx hb)
      have B8 := Lib.hid (bnext B7.out hb)
      have K8 := Lib.hid (K7.out.nx hb)
      have N8 := Lib.hid (N7.out.nx hb)
      clear hb I7 V7 B7 K7 N7
      have q3 : ¬ s < vwN X n := by have := HIN.out; omega
      generalize vwN X n = VN at q3 ⊢
      go_wp2_with fail
      go_loopw [24] (fun i wr => ∃ j : Nat, j ≤ 256 ∧ i = .int .i64 (j : Int) ∧ Blk wr gb 24 ((ws).map (Value.int .u64) ++ rs6).toArray ∧ Blk wr gn 24 ((ws).map (Value.int .u64) ++ rs8).toArray ∧ IsAr wr bs br ws [] c ∧ IsVw wr vb bs g 1 id n SZ X ∧ Below W.heap.size W wr) (fun i _ => 256 - (intOf i).toNat)
      case atStart => exact ⟨0, Nat.zero_le _, rfl, K8.out, N8.out, I8.out, V8.out, B8.out⟩
      case round =>
        obtain ⟨j, hj, rfl, hK, hN, hI, hV, hB⟩ := hrel
        have KJ := Lib.hid hK
        have NJ := Lib.hid hN
        have IJ := Lib.hid hI
        have VJ := Lib.hid hV
        have BJ := Lib.hid hB
        clear hK hN hI hV hB I8 V8 B8 K8 N8
        by_cases hjl : j < 256
        · have cn : wr.cell? ⟨gn, j, none⟩ = some (.int .u64 (ws.getD j 0)) := by
            rw [NJ.out.cell j]
            simp [List.getElem?_append, List.getD, WL1.out, hjl]
          have cb : wr.cell? ⟨gb, j, none⟩ = some (.int .u64 (ws.getD j 0)) := by
            rw [KJ.out.cell j]
            simp [List.getElem?_append, List.getD, WL1.out, hjl]
          generalize ws.getD j 0 = u2 at *
          have r9 : (u2 != u2) = false := by simp
          go_wp2_with fail
          go_quiet (fail)
          go_wp2_with fail
          go_roundw
          case rel => exact ⟨j + 1, by omega, by go_num, KJ.out.drewN _, NJ.out.drewN _, ar_drewN IJ.out _, Blk.drewN VJ.out _, bdrewN BJ.out _⟩
          case measure => simp [intOf]; omega
        · obtain rfl : j = 256 := by omega
          
          go_wp2_with fail
          refine (vLoad_any _ vb bs g 1 id n SZ X VJ.out OX.out br ws [] c IJ.out GL.out GU.out GN.out (by rw [WL2.out]; have := GF.out; omega) s).mono ?_
          rintro e w9 ⟨rfl, hb⟩
          rw [HI.out]
          rw [show slV X n ws g s = 0 by simp [slV, HI.out]]
          rw [if_neg (by decide)]
          have I9 := Lib.hid (IJ.out.nx hb)
          have V9 := Lib.hid (VJ.out.nx hb)
          have B9 := Lib.hid (bnext BJ.out hb)
          have e9 : w9.cell? ⟨b5, o5 + k, none⟩ = some (.int .u64 z) := (B9.out.cell (p := ⟨b5, o5 + k, none⟩) hb5).trans Z5.out
          clear hb IJ VJ BJ KJ NJ
          go_wp2_with fail
          go_roundw
          case rel => exact ⟨k + 1, ws, c, by omega, by omega, by go_num, I9.out, WO2.out, WL2.out, HC2.out, V9.out, B9.out⟩
          case measure => simp [intOf]; omega
    · have HI := Lib.hid hi
      have HIN := Lib.hid (show 0 ≤ s ∧ s < vwN X n by have h9 := hi; simp only [slIn, decide_eq_true_eq] at h9; exact h9)
      obtain ⟨p, hp⟩ : ∃ p, (2 * g + 1 + s).toNat = p := ⟨_, rfl⟩
      have HP := Lib.hid hp
      have HPE := Lib.hid (show 2 * g + 1 + s = (p : Int) by have := GL.out; have := HS.out; omega)
      have HPL := Lib.hid (show p < 256 by have := GF.out; have := HIN.out; have := HPE.out; omega)
      clear hi hp
      refine (words08 _ bs br ws [] c I1.out).mono ?_
      rintro e w5 ⟨A6, c6, rfl, ho, hb⟩
      rw [WL1.out] at ho
      obtain ⟨gb, rs6, hv6, hgb, hbk⟩ := own_bk ho (by omega)
      obtain ⟨rfl, rfl⟩ : A6 = some ⟨gb, 0, none⟩ ∧ c6 = 256 + rs6.length := by injection hv6 with h1 _ h2; exact ⟨h1, h2⟩
      have I5 := Lib.hid (I1.out.nx hb)
      have V5 := Lib.hid (V1.out.nx hb)
      have B5 := Lib.hid (bnext B1.out hb)
      have K5 := Lib.hid hbk
      have hbr := I1.out.r.lt
      have hbs := I1.out.s.lt
      have HNB := Lib.hid (show gb ≠ bs ∧ gb ≠ br ∧ W.heap.size ≤ gb from ⟨by omega, by omega, Nat.le_trans B1.out.size hgb⟩)
      have e5 : w5.cell? ⟨b5, o5 + k, none⟩ = some (.int .u64 z) := (B5.out.cell (p := ⟨b5, o5 + k, none⟩) hb5).trans Z5.out
      have hz5 := Lib.hid hgb
      clear ho hb hv6 hgb hbk hbr hbs I1 V1 B1 e4
      rw [WL1.out]
      go_wp2_with fail
      refine (vStore_any _ vb bs g 1 id n SZ X V5.out OX.out br ws [] c I5.out GL.out GU.out GN.out (by rw [WL1.out]; have := GF.out; omega) s z (by have := HC1.out; omega)).mono ?_
      rintro e w6 ⟨rfl, hI, hT⟩
      rw [HI.out]
      rw [show ssW X n ws g s z = ws.set p z by simp [ssW, HI.out, HP.out], show ssC X n c s = c + 1 by simp [ssC, HI.out]] at hI
      have WL2 := Lib.hid (show (ws.set p z).length = 256 by simp [WL1.out])
      have WO2 := Lib.hid (wds_set WO1.out HZ.out p)
      have HC2 := Lib.hid (show c + 1 ≤ 65540 + (k + 1) by have := HC1.out; omega)
      have I6 := Lib.hid hI
      have V6 : Hid (IsVw w6 vb bs g 1 id n SZ X) := Lib.hid (Blk.touch V5.out hT (Blk.ne_ V5.out I5.out.s (by decide)) (Blk.ne_ V5.out I5.out.r (by decide)))
      have K6 := Lib.hid (K5.out.touch hT HNB.out.1 HNB.out.2.1)
      have B6 := Lib.hid (btouchA B5.out hs hr hT)
      clear hI hT I5 V5 B5 K5 e5
      rw [if_pos rfl]
      go_wp2_with fail
      refine (words08 _ bs br (ws.set p z) [] (c + 1) I6.out).mono ?_
      rintro e w7 ⟨A8, c8, rfl, ho, hb⟩
      rw [WL2.out] at ho
      obtain ⟨gn, rs8, hv8, hgn, hbk⟩ := own_bk ho (by omega)
      obtain ⟨rfl, rfl⟩ : A8 = some ⟨gn, 0, none⟩ ∧ c8 = 256 + rs8.length := by injection hv8 with h1 _ h2; exact ⟨h1, h2⟩
      rw [WL2.out]
      have I7 := Lib.hid (I6.out.nx hb)
      have V7 := Lib.hid (V6.out.nx hb)
      have B7 := Lib.hid (bnext B6.out hb)
      have K7 := Lib.hid (K6.out.nx hb)
      have N7 := Lib.hid hbk
      have HGN := Lib.hid (show gb ≠ gn from by have := K6.out.lt; omega)
      clear ho hb hv8 hgn hbk I6 V6 B6 K6
      go_wp2_with fail
      refine (vSlots_any _ vb bs g 1 id n SZ X V7.out OX.out).mono ?_
      rintro e w8 ⟨rfl, hb⟩
      have I8 := Lib.hid (I7.out.nx hb)
      have V8 := Lib.hid (V7.out.nx hb)
      have B8 := Lib.hid (bnext B7.out hb)
      have K8 := Lib.hid (K7.out.nx hb)
      have N8 := Lib.hid (N7.out.nx hb)
      clear hb I7 V7 B7 K7 N7
      have q3 : s < vwN X n := by have := HIN.out; omega
      generalize vwN X n = VN at q3 ⊢
      go_wp2_with fail
      go_loopw [24] (fun i wr => ∃ j : Nat, j ≤ 256 ∧ i = .int .i64 (j : Int) ∧ Blk wr gb 24 ((if p < j then ws.set p z else ws).map (Value.int .u64) ++ rs6).toArray ∧ Blk wr gn 24 (((ws.set p z)).map (Value.int .u64) ++ rs8).toArray ∧ IsAr wr bs br (ws.set p z) [] (c + 1) ∧ IsVw wr vb bs g 1 id n SZ X ∧ Below W.heap.size W wr) (fun i _ => 256 - (intOf i).toNat)
      case atStart => exact ⟨0, Nat.zero_le _, rfl, by simpa using K8.out, N8.out, I8.out, V8.out, B8.out⟩
      case round =>
        obtain ⟨j, hj, rfl, hK, hN, hI, hV, hB⟩ := hrel
        have KJ := Lib.hid hK
        have NJ := Lib.hid hN
        have IJ := Lib.hid hI
        have VJ := Lib.hid hV
        have BJ := Lib.hid hB
        clear hK hN hI hV hB I8 V8 B8 K8 N8
        by_cases hjl : j < 256
        · have hw1 : wrap64 (2 * g) = 2 * g := by have := GL.out; have := GU.out; simp [wrap64]; omega
          have hw2 : wrap64 (2 * g + 1) = 2 * g + 1 := by have := GL.out; have := GU.out; simp [wrap64]; omega
          have hw3 : wrap64 (2 * g + 1 + s) = 2 * g + 1 + s := by have := GL.out; have := GU.out; have := HS.out; simp [wrap64]; omega
          have hw4 : IntKind.i64.wrap (2 * g) = 2 * g := by have := GL.out; have := GU.out; simp [IntKind.wrap, IntKind.signed, IntKind.bits]; omega
          have hw5 : IntKind.i64.wrap (2 * g + 1) = 2 * g + 1 := by have := GL.out; have := GU.out; simp [IntKind.wrap, IntKind.signed, IntKind.bits]; omega
          have hw6 : IntKind.i64.wrap (2 * g + 1 + s) = 2 * g + 1 + s := by have := GL.out; have := GU.out; have := HS.out; simp [IntKind.wrap, IntKind.signed, IntKind.bits]; omega
          have cn : wr.cell? ⟨gn, j, none⟩ = some (.int .u64 ((ws.set p z).getD j 0)) := row_cell NJ.out (by rw [WL2.out]; exact hjl)
          have ej : wr.cell? ⟨b5, o5 + k, none⟩ = some (.int .u64 z) := (BJ.out.cell (p := ⟨b5, o5 + k, none⟩) hb5).trans Z5.out
          have cb : wr.cell? ⟨gb, j, none⟩ = some (.int .u64 ((if p < j then ws.set p z else ws).getD j 0)) := row_cell KJ.out (by split <;> first | (rw [WL2.out]; exact hjl) | (rw [WL1.out]; exact hjl))
          have fb := KJ.out.frozen j
          by_cases hpj : j = p
          · have hjp : ((j : Int) == 2 * g + 1 + s) = true := by have := HPE.out; simp; omega
            have hgz := Lib.hid (show (ws.set p z).getD j 0 = z by simp [hpj, List.getD, WL1.out, HPL.out])
            have KX := Lib.hid (show Blk (wr.setCell ⟨gb, j, none⟩ (.int .u64 z)) gb 24 ((if p < j + 1 then ws.set p z else ws).map (Value.int .u64) ++ rs6).toArray from by
              have := KJ.out.set_ j (.int .u64 z)
              rw [if_neg (by omega)] at this
              rw [if_pos (by omega)]
              simpa [List.map_set, List.set_append, WL1.out, hpj, HPL.out] using this)
            have hnx := Lib.hid (show (wr.setCell ⟨gb, j, none⟩ (.int .u64 z)).cell? ⟨gb, j, none⟩ = some (.int .u64 z) from by
              have := row_cell KX.out (j := j) (by rw [if_pos (by omega), WL2.out]; exact hjl)
              rwa [if_pos (by omega), hgz.out] at this)
            have hnn := Lib.hid (show (wr.setCell ⟨gb, j, none⟩ (.int .u64 z)).cell? ⟨gn, j, none⟩ = some (.int .u64 z) from by
              rw [(NJ.out.far (p := ⟨gb, j, none⟩) (Ne.symm HGN.out) (.int .u64 z)).cell j, ← NJ.out.cell j, cn, hgz.out])
            have NX := Lib.hid (NJ.out.far (p := ⟨gb, j, none⟩) (Ne.symm HGN.out) (.int .u64 z))
            have IX := Lib.hid (ar_far IJ.out HNB.out.1 HNB.out.2.1 j (.int .u64 z))
            have VX := Lib.hid (Blk.far VJ.out (p := ⟨gb, j, none⟩) (Blk.ne_ VJ.out KJ.out (by decide)) (.int .u64 z))
            have BX := Lib.hid (BJ.out.setCell (p := ⟨gb, j, none⟩) HNB.out.2.2 (.int .u64 z))
            have HJP := Lib.hid hpj
            clear KJ NJ IJ VJ BJ hpj
            generalize (if p < j then ws.set p z else ws).getD j 0 = u at *
            generalize (ws.set p z).getD j 0 = u2 at *
            go_wp2_with fail
            have c1' := hnx.out
            have c2' := hnn.out
            generalize wr.setCell ⟨gb, j, none⟩ (.int .u64 z) = wx at *
            clear cn cb ej fb
            have r9 : (z != z) = false := by simp
            go_quiet (fail)
            go_wp2_with fail
            go_roundw
            case rel => exact ⟨j + 1, by omega, by go_num, KX.out.drewN _, NX.out.drewN _, ar_drewN IX.out _, Blk.drewN VX.out _, bdrewN BX.out _⟩
            case measure => simp [intOf]; omega
          · have hjp : ((j : Int) == 2 * g + 1 + s) = false := by have := HPE.out; simp; omega
            have hgg := Lib.hid (show (if p < j then ws.set p z else ws).getD j 0 = (ws.set p z).getD j 0 from by split <;> simp [List.getD, List.getElem?_set, Ne.symm hpj])
            have KX := Lib.hid (show Blk wr gb 24 ((if p < j + 1 then ws.set p z else ws).map (Value.int .u64) ++ rs6).toArray from by
              have := KJ.out
              rw [show (if p < j + 1 then ws.set p z else ws) = (if p < j then ws.set p z else ws) from by by_cases h : p < j <;> simp [h] <;> omega]
              exact this)
            rw [hgg.out] at cb
            have HJP := Lib.hid hpj
            clear KJ hpj
            generalize (ws.set p z).getD j 0 = u2 at *
            have r9 : (u2 != u2) = false := by simp
            go_wp2_with fail
            go_quiet (fail)
            go_wp2_with fail
            go_roundw
            case rel => exact ⟨j + 1, by omega, by go_num, KX.out.drewN _, NJ.out.drewN _, ar_drewN IJ.out _, Blk.drewN VJ.out _, bdrewN BJ.out _⟩
            case measure => simp [intOf]; omega
        · obtain rfl : j = 256 := by omega
          
          go_wp2_with fail
          refine (vLoad_any _ vb bs g 1 id n SZ X VJ.out OX.out br (ws.set p z) [] (c + 1) IJ.out GL.out GU.out GN.out (by rw [WL2.out]; have := GF.out; omega) s).mono ?_
          rintro e w9 ⟨rfl, hb⟩
          rw [HI.out]
          rw [show slV X n (ws.set p z) g s = z by simp [slV, HI.out, HP.out, WL1.out, HPL.out]]
          rw [if_pos rfl]
          have r9 : (z != z) = false := by simp
          have I9 := Lib.hid (IJ.out.nx hb)
          have V9 := Lib.hid (VJ.out.nx hb)
          have B9 := Lib.hid (bnext BJ.out hb)
          have e9 : w9.cell? ⟨b5, o5 + k, none⟩ = some (.int .u64 z) := (B9.out.cell (p := ⟨b5, o5 + k, none⟩) hb5).trans Z5.out
          clear hb IJ VJ BJ KJ NJ
          go_wp2_with fail
          go_roundw
          case rel => exact ⟨k + 1, (ws.set p z), (c + 1), by omega, by omega, by go_num, I9.out, WO2.out, WL2.out, HC2.out, V9.out, B9.out⟩
          case measure => simp [intOf]; omega
end Go.Proofs.YtmjkohjijoddaaaDoor
