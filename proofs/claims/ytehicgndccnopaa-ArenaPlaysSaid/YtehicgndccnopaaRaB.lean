/- The document's arena of layer 2: Store, Words, Fill, Move. -/
import Derived.Test.YtehicgndccnopaaRaA
namespace Go.Proofs.Ytehicgndccnopaa
open Go.RowKit
set_option linter.unusedVariables false
set_option linter.unusedSimpArgs false

theorem lit_u64 (w : World) (g : Nat) (zs : List Int) (hg : g = w.heap.size) {B : Nat} (hB : g < B) : Reads (w.alloc (.cells (zs.map (Value.int .u64)).toArray 22)) B 1 (some ⟨g, 0, none⟩) zs.length (zs.map (Value.int .u64)) :=
  ⟨by simp, fun _ => ⟨_, rfl, hB, fun j u hu => by
    have e : (⟨g, 0, none⟩ : Addr).add j = ⟨g, j, none⟩ := by unfold Addr.add; split <;> simp_all
    rw [e, (Blk.new_at w g 22 _ hg).cell j]
    simpa using hu⟩⟩

theorem set_take (ws : List Int) (j : Nat) (x : Int) (h : j < ws.length) : ws.take j ++ ([x] ++ ws.drop (j + 1)) = ws.set j x := by
  rw [List.set_eq_take_append_cons_drop, if_pos h]; rfl
theorem fill_take (ws : List Int) (j m : Nat) (x : Int) (h : j + m ≤ ws.length) : ws.take j ++ (List.replicate m x ++ ws.drop (j + m)) = fillN ws j x m := by
  apply List.ext_getElem?
  intro k
  rw [fillN_get]
  rcases (by omega : k < j ∨ (j ≤ k ∧ k < j + m) ∨ j + m ≤ k) with h1 | ⟨h1, h2⟩ | h1
  · rw [List.getElem?_append_left (by simp; omega), if_neg (by omega)]
    simp [List.getElem?_take, h1]
  · rw [List.getElem?_append_right (by simp; omega), List.getElem?_append_left (by simp; omega), if_pos (by omega)]
    simp [List.getElem?_replicate]
    omega
  · rw [List.getElem?_append_right (by simp; omega), List.getElem?_append_right (by simp; omega), if_neg (by omega)]
    simp [List.getElem?_drop]
    congr 1
    omega

section
variable (w : World) (B rb : Nat) (v : Value) (ws : List Int) (c : Nat) (h : IsRa w B rb v ws c)
include h

theorem ra_stay (out : Value) : GivesRa B rb v ws c out w (.returned out) w := ⟨rfl, v, h, .inl rfl, Touch.refl _ _ _⟩

set_option maxRecDepth 100000 in
set_option maxHeartbeats 1000000 in
theorem rstoreA_any (i x : Int) (i0 : -9223372036854775808 ≤ i) (i1 : i ≤ 9223372036854775807) (hB : B ≤ w.heap.size) (hc : c ≤ 1000000000000) :
    Calls Try.prog 66 #[.pointer (some ⟨rb, 0, none⟩), .int .i64 i, .int .u64 x] w (GivesRa B rb v (stW ws i x) (stC ws i c) (.int .i64 (hasE ws.length i 1)) w) := by
  have HC := Lib.hid (rhas_any w B rb v ws c h i 1 i0 i1 (by omega) (by omega))
  by_cases hh : hasE ws.length i 1 = 0
  · obtain ⟨h1, _, h2, h3⟩ := hasE_yes hh
    obtain ⟨j, rfl⟩ := Int.eq_ofNat_of_zero_le h1
    have hj : j < ws.length := by omega
    have HI := Lib.hid h
    have HV := Lib.hid (show stW ws (j : Int) x = ws.take j ++ ([x] ++ ws.drop (j + 1)) by rw [set_take ws j x hj]; simp [stW, hh])
    have HW := Lib.hid (show stC ws (j : Int) c = c + 1 by simp [stC, hh])
    have HH := Lib.hid hh
    clear hh h i0 i1 h2 h3
    go_enter Try.func66, Try.ntmps66
    go_wp2_with fail
    refine HC.out.mono ?_
    rintro e w' ⟨rfl, rfl⟩
    rw [HH.out, show ((0 : Int) == 0) = true by decide]
    go_wp2_with fail
    refine (rput_any _ B rb v ws c (HI.out.nx ((Below.refl _ w).alloc (Nat.le_refl _) _)) j (some ⟨w.heap.size, 0, none⟩) 1 1 [x] (lit_u64 w _ [x] rfl (by simp)) (by omega) (by simp; omega) hc).mono ?_
    rintro e w2 ⟨rfl, v', hI, hf, hT⟩
    have RES := Lib.hid (And.intro hI (And.intro hf hT))
    clear hI hf hT
    go_wp2_with fail
    go_ret
    obtain ⟨hI, hf, hT⟩ := RES.out
    refine ⟨by rw [HH.out]; rfl, v', by rw [HV.out, HW.out]; exact hI, ?_, (Touch.of_below ((Below.refl _ w).alloc (Nat.le_refl _) _)).trans hT⟩
    rcases hf with hf | hf
    · exact .inl hf
    · right; intro q e; have := hf q e; simp at this; omega
  · have HV := Lib.hid (show stW ws i x = ws by simp [stW, hh])
    have HW := Lib.hid (show stC ws i c = c by simp [stC, hh])
    have HH := Lib.hid (hasE_no hh)
    have HI := Lib.hid h
    clear hh h i0 i1
    go_enter Try.func66, Try.ntmps66
    go_wp2_with fail
    refine HC.out.mono ?_
    rintro e w' ⟨rfl, rfl⟩
    rw [HH.out, show ((2 : Int) == 0) = false by decide]
    go_wp2_with fail
    go_ret
    rw [HV.out, HW.out, HH.out]
    exact ra_stay _ _ _ _ _ _ HI.out _

set_option maxRecDepth 100000 in
set_option maxHeartbeats 1000000 in
theorem rwordsA_any (i n : Int) (i0 : -9223372036854775808 ≤ i) (i1 : i ≤ 9223372036854775807) (n0 : -9223372036854775808 ≤ n) (n1 : n ≤ 9223372036854775807) :
    Calls Try.prog 69 #[.pointer (some ⟨rb, 0, none⟩), .int .i64 i, .int .i64 n] w (GivesWords (woL ws i n) (hasE ws.length i n) w) := by
  have HC := Lib.hid (rhas_any w B rb v ws c h i n i0 i1 n0 n1)
  by_cases hh : hasE ws.length i n = 0
  · obtain ⟨h1, h4, h2, h3⟩ := hasE_yes hh
    obtain ⟨j, rfl⟩ := Int.eq_ofNat_of_zero_le h1
    obtain ⟨m, rfl⟩ := Int.eq_ofNat_of_zero_le h4
    have HL := Lib.hid (woL_length hh)
    have HV := Lib.hid (show woL ws (j : Int) (m : Int) = (ws.drop j).take m by simp [woL, hh])
    have HH := Lib.hid hh
    have hjm : j + m ≤ ws.length := by omega
    have hlen := h.hi
    obtain ⟨g, rs, rfl, hBg, hG⟩ := h.form
    have HP := Lib.hid (blk_part (j := j) (m := m) hG hjm)
    obtain ⟨c0, c1⟩ := h.s.c2
    obtain ⟨i0', hi0, hz0, hz1, hz2⟩ := info_parts Try.infoU64
    have HII := Lib.hid hi0
    have Z0 := Lib.hid hz0
    have Z1 := Lib.hid hz1
    have Z2 := Lib.hid hz2
    clear hh h i0 i1 n0 n1 h2 h3 hG hi0 hz0 hz1 hz2
    have e1 : ((j : Int) + (m : Int)).toNat = j + m := by omega
    by_cases hj : j = ws.length + rs.length
    · obtain rfl : m = 0 := by omega
      have hj' : ws.length + rs.length = j := hj.symm
      rw [hj'] at c0
      have HJ := Lib.hid hj
      have hjb : j ≤ 65536 := by omega
      clear hj hj' hjm
      go_enter Try.func69, Try.ntmps69
      go_wp2_with fail
      refine HC.out.mono ?_
      rintro e w' ⟨rfl, rfl⟩
      rw [HH.out, show ((0 : Int) == 0) = true by decide]
      go_wp2_with (at_builtin; refine wpList_append_any _ rfl (.const (.slice none 0 0)) (.tmp 21) 40 rfl w.heap.size 22 i0' (.int .u64 0) 1 8 Try.underlying40 HII.out Z0.out Z1.out Z2.out rfl (by decide) (.slice none 0 0) 0 [] rfl (World.ownsRow_nil _ _ _ _) w.heap.size (some ⟨g, 0, none⟩) 0 0 [] rfl ⟨by simp, fun h => absurd h (by omega)⟩ (by simp) (by unfold maxLen; omega) (by omega) (Nat.le_refl _) ?_)
      intro v1 w1 hown1 hgr1 _
      have hb1 : Below w.heap.size w w1 := (Below.refl _ w).grown hgr1 (Nat.le_refl _) (by simp [Value.ownBlock])
      have OW1 := Lib.hid hown1
      have HB1 := Lib.hid hb1
      clear hown1 hgr1 hb1
      go_wp2_with fail
      go_ret2
      have hz : woL ws (j : Int) ((0 : Nat) : Int) = [] := by rw [HV.out]; simp
      rw [hz, HH.out]
      exact ⟨v1, rfl, OW1.out, HB1.out⟩
    · have hj2 : j < ws.length + rs.length := by omega
      have hj3 : ¬ ws.length + rs.length = j := by omega
      generalize hcp : ws.length + rs.length = CP at *
      have HCP := Lib.hid hcp
      have hjcp : (j : Int) + (m : Int) ≤ (CP : Int) := by omega
      clear hcp
      generalize hLw : ws.length = L at *
      have HLW := Lib.hid hLw
      clear hLw hj
      go_enter Try.func69, Try.ntmps69
      go_wp2_with fail
      refine HC.out.mono ?_
      rintro e w' ⟨rfl, rfl⟩
      rw [HH.out, show ((0 : Int) == 0) = true by decide]
      go_wp2_with (at_builtin; refine wpList_append_any _ rfl (.const (.slice none 0 0)) (.tmp 21) 40 rfl w.heap.size 22 i0' (.int .u64 0) 1 8 Try.underlying40 HII.out Z0.out Z1.out Z2.out rfl (by decide) (.slice none 0 0) 0 [] rfl (World.ownsRow_nil _ _ _ _) w.heap.size (some ⟨g, j, none⟩) m (CP - j) (((ws.drop j).take m).map (Value.int .u64)) rfl HP.out (u64_one _) (by unfold maxLen; omega) (by omega) (Nat.le_refl _) ?_)
      intro v1 w1 hown1 hgr1 _
      have hb1 : Below w.heap.size w w1 := (Below.refl _ w).grown hgr1 (Nat.le_refl _) (by simp [Value.ownBlock])
      have OW1 := Lib.hid hown1
      have HB1 := Lib.hid hb1
      clear hown1 hgr1 hb1
      go_wp2_with fail
      go_ret2
      have hl := HL.out
      rw [HH.out]
      refine ⟨v1, rfl, ?_, HB1.out⟩
      rw [hl, HV.out]
      simpa using OW1.out
  · have HV := Lib.hid (show woL ws i n = [] by simp [woL, hh])
    have HH := Lib.hid (hasE_no hh)
    clear hh h i0 i1 n0 n1
    go_enter Try.func69, Try.ntmps69
    go_wp2_with fail
    refine HC.out.mono ?_
    rintro e w' ⟨rfl, rfl⟩
    rw [HH.out, show ((2 : Int) == 0) = false by decide]
    go_wp2_with fail
    go_ret2
    rw [HV.out, HH.out]
    exact ⟨_, rfl, World.ownsRow_nil _ _ _ _, Below.refl _ _⟩

set_option maxRecDepth 100000 in
set_option maxHeartbeats 2000000 in
theorem rfillA_any (i n x : Int) (i0 : -9223372036854775808 ≤ i) (i1 : i ≤ 9223372036854775807) (n0 : -9223372036854775808 ≤ n) (n1 : n ≤ 9223372036854775807) (hB : B ≤ w.heap.size) (hc : c ≤ 1000000000000) :
    Calls Try.prog 68 #[.pointer (some ⟨rb, 0, none⟩), .int .i64 i, .int .i64 n, .int .u64 x] w (GivesRa B rb v (fiW ws i n x) (fiC ws i n c) (.int .i64 (hasE ws.length i n)) w) := by
  have HC := Lib.hid (rhas_any w B rb v ws c h i n i0 i1 n0 n1)
  by_cases hh : hasE ws.length i n = 0
  · obtain ⟨h1, h4, h2, h3⟩ := hasE_yes hh
    obtain ⟨j, rfl⟩ := Int.eq_ofNat_of_zero_le h1
    obtain ⟨m, rfl⟩ := Int.eq_ofNat_of_zero_le h4
    have hjm : j + m ≤ ws.length := by omega
    have hlen := h.hi
    have HV := Lib.hid (show fiW ws (j : Int) (m : Int) x = ws.take j ++ (List.replicate m x ++ ws.drop (j + m)) by rw [fill_take ws j m x hjm]; simp [fiW, hh])
    have HW := Lib.hid (show fiC ws (j : Int) (m : Int) c = c + m by simp [fiC, hh])
    have HH := Lib.hid hh
    have HI := Lib.hid h
    obtain ⟨i0', hi0, hz0, hz1, hz2⟩ := info_parts Try.infoU64
    have HII := Lib.hid hi0
    have Z0 := Lib.hid hz0
    have Z1 := Lib.hid hz1
    have Z2 := Lib.hid hz2
    clear hh h i0 i1 n0 n1 h2 h3 hi0 hz0 hz1 hz2
    go_enter Try.func68, Try.ntmps68
    go_wp2_with fail
    refine HC.out.mono ?_
    rintro e w' ⟨rfl, rfl⟩
    rw [HH.out, show ((0 : Int) == 0) = true by decide]
    go_wp2_with fail
    go_loopw [9, 10] (fun l k wr => ∃ q : Nat, q ≤ m ∧ k = .int .i64 (q : Int) ∧ wr.ownsRow w.heap.size 22 1 l q ((List.replicate q x).map (Value.int .u64)) ∧ Below w.heap.size w wr) (fun _ k _ => m - (intOf k).toNat)
    case atStart => exact ⟨0, by omega, rfl, World.ownsRow_nil _ _ _ _, Below.refl _ _⟩
    case round =>
      obtain ⟨q, hq, rfl, hown, hbl⟩ := hrel
      have OWN := Lib.hid hown
      have HB := Lib.hid hbl
      have hsz := hbl.size
      by_cases hlt : q < m
      · clear hown hbl
        go_wp2_with (at_builtin; refine wpList_append_any _ rfl (.tmp 21) (.tmp 23) 40 rfl w.heap.size 22 i0' (.int .u64 0) 1 8 Try.underlying40 HII.out Z0.out Z1.out Z2.out rfl (by decide) _ q _ rfl (OWN.out.alloc _) (wr.heap.size + 1) (some ⟨wr.heap.size, 0, none⟩) 1 1 ([x].map (Value.int .u64)) rfl (lit_u64 wr _ [x] rfl (by omega)) (u64_one _) (by unfold maxLen; omega) (by omega) (by simp; omega) ?_)
        intro v1 w1 hown1 hgr1 _
        have HB1 := Lib.hid ((HB.out.alloc hsz _).grown hgr1 (by simp; omega) (fun q e => (OWN.out.lt q e).1))
        have OW1 := Lib.hid hown1
        clear hown1 hgr1
        go_wp2_with fail
        go_roundw
        case rel =>
          refine ⟨q + 1, by omega, by go_num, ?_, HB1.out⟩
          have := OW1.out
          rw [List.replicate_succ']
          simpa using this
        case measure => simp [intOf]; omega
      · obtain rfl : q = m := by omega
        obtain ⟨A1, k1, hv1, _⟩ := own_form2' hown
        rw [hv1] at hown ⊢
        have R1 := Lib.hid (Reads.of_own hown)
        clear hown hbl hv1 OWN
        go_wp2_with fail
        refine (rput_any _ B rb v ws c (HI.out.nx HB.out) j A1 q k1 (List.replicate q x) R1.out (by omega) (by omega) hc).mono ?_
        rintro e w2 ⟨rfl, v', hI, hf, hT⟩
        have RES := Lib.hid (And.intro hI (And.intro hf hT))
        clear hI hf hT
        go_wp2_with fail
        go_ret
        obtain ⟨hI, hf, hT⟩ := RES.out
        refine ⟨by rw [HH.out]; rfl, v', by rw [HV.out, HW.out]; exact hI, ?_, (Touch.of_below HB.out).trans hT⟩
        rcases hf with hf | hf
        · exact .inl hf
        · right; intro q e; have := hf q e; omega
  · have HV := Lib.hid (show fiW ws i n x = ws by simp [fiW, hh])
    have HW := Lib.hid (show fiC ws i n c = c by simp [fiC, hh])
    have HH := Lib.hid (hasE_no hh)
    have HI := Lib.hid h
    clear hh h i0 i1 n0 n1
    go_enter Try.func68, Try.ntmps68
    go_wp2_with fail
    refine HC.out.mono ?_
    rintro e w' ⟨rfl, rfl⟩
    rw [HH.out, show ((2 : Int) == 0) = false by decide]
    go_wp2_with fail
    go_ret
    rw [HV.out, HW.out, HH.out]
    exact ra_stay _ _ _ _ _ _ HI.out _

set_option maxRecDepth 100000 in
set_option maxHeartbeats 2000000 in
theorem rmoveA_any (t f n : Int) (t0 : -9223372036854775808 ≤ t) (t1 : t ≤ 9223372036854775807) (f0 : -9223372036854775808 ≤ f) (f1 : f ≤ 9223372036854775807) (n0 : -9223372036854775808 ≤ n) (n1 : n ≤ 9223372036854775807) (hB : B ≤ w.heap.size) (hc : c ≤ 1000000000000) :
    Calls Try.prog 67 #[.pointer (some ⟨rb, 0, none⟩), .int .i64 t, .int .i64 f, .int .i64 n] w (GivesRa B rb v (mvW ws t f n) (mvC ws t f n c) (.int .i64 (mvE ws.length t f n)) w) := by
  have HC := Lib.hid (rwordsA_any w B rb v ws c h f n f0 f1 n0 n1)
  have HC2 := Lib.hid (fun W (hW : IsRa W B rb v ws c) => rhas_any W B rb v ws c hW t n t0 t1 n0 n1)
  have HI := Lib.hid h
  by_cases hf : hasE ws.length f n = 0
  · by_cases ht : hasE ws.length t n = 0
    · have he : mvE ws.length t f n = 0 := by simp [mvE, hf, ht]
      obtain ⟨h1, h2, h3, h4⟩ := hasE_yes hf
      obtain ⟨g1, g2, g3, g4⟩ := hasE_yes ht
      obtain ⟨i, rfl⟩ := Int.eq_ofNat_of_zero_le h1
      obtain ⟨m, rfl⟩ := Int.eq_ofNat_of_zero_le h2
      obtain ⟨j, rfl⟩ := Int.eq_ofNat_of_zero_le g1
      have HL := Lib.hid (woL_length hf)
      have HV := Lib.hid (show mvW ws (j : Int) (i : Int) (m : Int) = ws.take j ++ (woL ws (i : Int) (m : Int) ++ ws.drop (j + m)) by simp [mvW, he, moveL, woL, hf])
      have HW := Lib.hid (show mvC ws (j : Int) (i : Int) (m : Int) c = c + m by simp [mvC, he])
      have HE := Lib.hid he
      have E1 := Lib.hid hf
      have E2 := Lib.hid ht
      have hjm : j + m ≤ ws.length := by omega
      clear h hf ht he h3 h4 g2 g3 g4 t0 t1 f0 f1 n0 n1
      go_enter Try.func67, Try.ntmps67
      go_wp2_with fail
      refine HC.out.mono ?_
      rintro e w1 ⟨v1, rfl, hown, hb⟩
      rw [E1.out]
      rw [HL.out] at hown
      obtain ⟨A1, k1, hv1, _⟩ := own_form2' hown
      rw [hv1] at hown ⊢
      have R1 := Lib.hid (Reads.of_own hown)
      have HB := Lib.hid hb
      have I1 := Lib.hid (HI.out.nx hb)
      have hz := hb.size
      clear hown hv1 hb
      go_wp2_with fail
      refine (HC2.out _ I1.out).mono ?_
      rintro e w' ⟨rfl, rfl⟩
      rw [E2.out, show ((0 : Int) == 0) = true by decide]
      go_wp2_with fail
      refine (rput_any _ B rb v ws c I1.out j A1 m k1 _ R1.out hjm (by omega) hc).mono ?_
      rintro e w2 ⟨rfl, v', hI, hf, hT⟩
      have RES := Lib.hid (And.intro hI (And.intro hf hT))
      clear hI hf hT
      go_wp2_with fail
      go_ret
      obtain ⟨hI, hf, hT⟩ := RES.out
      refine ⟨by rw [HE.out]; rfl, v', by rw [HV.out, HW.out]; exact hI, ?_, (Touch.of_below HB.out).trans hT⟩
      rcases hf with hf | hf
      · exact .inl hf
      · right; intro q e; have := hf q e; omega
    · have HE := Lib.hid (show mvE ws.length t f n = 2 by simp [mvE, hf, hasE_no ht])
      have HV := Lib.hid (show mvW ws t f n = ws by simp [mvW, HE.out])
      have HW := Lib.hid (show mvC ws t f n c = c by simp [mvC, HE.out])
      have E1 := Lib.hid hf
      have E2 := Lib.hid (hasE_no ht)
      clear h hf ht t0 t1 f0 f1 n0 n1
      go_enter Try.func67, Try.ntmps67
      go_wp2_with fail
      refine HC.out.mono ?_
      rintro e w1 ⟨v1, rfl, hown, hb⟩
      rw [E1.out]
      have HB := Lib.hid hb
      have I1 := Lib.hid (HI.out.nx hb)
      clear hown hb
      go_wp2_with fail
      refine (HC2.out _ I1.out).mono ?_
      rintro e w' ⟨rfl, rfl⟩
      rw [E2.out, show ((2 : Int) == 0) = false by decide]
      go_wp2_with fail
      go_ret
      rw [HV.out, HW.out, HE.out]
      exact ⟨rfl, v, I1.out, .inl rfl, Touch.of_below HB.out⟩
  · have HE := Lib.hid (show mvE ws.length t f n = 2 by simp [mvE, hasE_no hf])
    have HV := Lib.hid (show mvW ws t f n = ws by simp [mvW, HE.out])
    have HW := Lib.hid (show mvC ws t f n c = c by simp [mvC, HE.out])
    have E1 := Lib.hid (hasE_no hf)
    clear h hf t0 t1 f0 f1 n0 n1
    go_enter Try.func67, Try.ntmps67
    go_wp2_with fail
    refine HC.out.mono ?_
    rintro e w1 ⟨v1, rfl, hown, hb⟩
    rw [E1.out]
    have HB := Lib.hid hb
    have I1 := Lib.hid (HI.out.nx hb)
    clear hown hb
    go_wp2_with fail
    go_ret
    rw [HV.out, HW.out, HE.out]
    exact ⟨rfl, v, I1.out, .inl rfl, Touch.of_below HB.out⟩
end
end Go.Proofs.Ytehicgndccnopaa
