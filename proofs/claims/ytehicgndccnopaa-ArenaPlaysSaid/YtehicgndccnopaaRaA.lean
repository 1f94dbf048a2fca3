/- The document's arena of layer 2: New, May, Has, Load, put. -/
import Derived.Test.YtehicgndccnopaaArenaF
namespace Go.Proofs.Ytehicgndccnopaa
open Go.RowKit
set_option linter.unusedVariables false
set_option linter.unusedSimpArgs false

/-- The document's arena: its struct in block rb; its words are a row of the call's own. -/
structure IsRa (w : World) (B rb : Nat) (v : Value) (ws : List Int) (c : Nat) : Prop where
  s : Blk w rb 65 #[v, .int .u64 (c : Int)]
  r : w.ownsRow B 22 1 v ws.length (ws.map (Value.int .u64))
  lo : 16 ≤ ws.length
  hi : ws.length ≤ 65536
  le : B ≤ rb

theorem IsRa.nx {w w' : World} {B rb : Nat} {v : Value} {ws : List Int} {c : Nat} (h : IsRa w B rb v ws c) (hb : Below w.heap.size w w') : IsRa w' B rb v ws c :=
  ⟨h.s.nx hb, own_nx2 h.r hb, h.lo, h.hi, h.le⟩
theorem IsRa.form {w : World} {B rb : Nat} {v : Value} {ws : List Int} {c : Nat} (h : IsRa w B rb v ws c) : ∃ g rs, v = .slice (some ⟨g, 0, none⟩) ws.length (ws.length + rs.length) ∧ B ≤ g ∧ Blk w g 22 (ws.map (Value.int .u64) ++ rs).toArray := by
  obtain ⟨g, rs, hv, hg, hb⟩ := own_blk h.r (by have := h.lo; omega)
  exact ⟨g, rs, hv, hg, hb⟩

theorem blk_part {w : World} {g : Nat} {ws : List Int} {rs : List Value} (h : Blk w g 22 (ws.map (Value.int .u64) ++ rs).toArray) {j m : Nat} (hj : j + m ≤ ws.length) : Reads w w.heap.size 1 (some ⟨g, j, none⟩) m (((ws.drop j).take m).map (Value.int .u64)) :=
  ⟨by simp; omega, fun hm => ⟨_, rfl, h.lt, fun i u hu => by
    have e : (⟨g, j, none⟩ : Addr).add i = ⟨g, j + i, none⟩ := by unfold Addr.add; split <;> simp_all
    have hi : i < m := by have := (List.getElem?_eq_some_iff.1 hu).1; simp at this; omega
    rw [e, h.cell (j + i)]
    rw [← hu]
    simp [List.getElem?_take, hi, List.getElem?_drop, List.getElem?_append, show j + i < ws.length by omega]⟩⟩

theorem u64_one (zs : List Int) : ∀ u ∈ zs.map (Value.int .u64), u.oneCell' = true := by
  intro u hu
  obtain ⟨z, _, rfl⟩ := List.mem_map.1 hu
  rfl
theorem own_baseA {w : World} {B B' : Nat} {e : TypeId} {size : Nat} {v : Value} {n : Nat} {xs : List Value} (h : w.ownsRow B e size v n xs) (hB : B' ≤ B) : w.ownsRow B' e size v n xs := by
  refine ⟨h.1, ?_⟩
  rcases h.2 with h3 | ⟨g, cap, cur, rfl, hb, hg, h3⟩
  · exact .inl h3
  · exact .inr ⟨g, cap, cur, rfl, Nat.le_trans hB hb, hg, h3⟩
theorem own_form2' {w : World} {base : Nat} {e : TypeId} {size : Nat} {v : Value} {n : Nat} {xs : List Value} (h : w.ownsRow base e size v n xs) : ∃ A c, v = .slice A n c ∧ n ≤ c := by
  rcases h.2 with ⟨rfl, rfl⟩ | ⟨g, cap, cur, rfl, _, _, h1, _⟩
  · exact ⟨none, 0, rfl, Nat.le_refl _⟩
  · exact ⟨_, cap, rfl, h1⟩

/-- What put gives. -/
def GivesRa (B rb : Nat) (v : Value) (ws : List Int) (c : Nat) (out : Value) (w : World) (e : Ending) (w' : World) : Prop :=
  e = .returned out ∧ ∃ v', IsRa w' B rb v' ws c ∧ (v' = v ∨ ∀ g, v'.ownBlock = some g → w.heap.size ≤ g) ∧ Touch rb rb w w'

set_option maxRecDepth 100000 in
set_option maxHeartbeats 1000000 in
theorem rnewA_any (w : World) (n : Nat) (h0 : 16 ≤ n) (h1 : n ≤ 65536) : Calls Try.prog 38 #[.int .i64 (n : Int)] w fun e w' =>
    ∃ rb v, e = .returned (.pointer (some ⟨rb, 0, none⟩)) ∧ IsRa w' w.heap.size rb v (List.replicate n 0) 0 ∧ Below w.heap.size w w' := by
  have hmk := fun W => run_make_row' (P := Try.prog) 40 22 (.int .u64 0) 8 Try.underlying40 Try.infoU64 rfl .i64 .i64 n (by omega) (by omega) W
  go_enter Try.func38, Try.ntmps38
  go_wp2
  go_ret
  refine ⟨w.heap.size + 1, .slice (some ⟨w.heap.size, 0, none⟩) n n, rfl, ⟨?_, ?_, by simpa using h0, by simpa using h1, by omega⟩, balloc (balloc (Below.refl _ w) _) _⟩
  · simpa using Blk.new_at (w.alloc (.cells (madeCells #[.int .u64 0] n) 22)) (w.heap.size + 1) 65 _ (by simp)
  · have := (World.ownsRow_lit (base := w.heap.size) (e := 22) (size := 1) w (madeCells #[.int .u64 0] n) n (Nat.le_refl _) (by unfold maxLen; omega) (by simp [madeCells])).alloc (.cells #[.slice (some ⟨w.heap.size, 0, none⟩) n n, .int .u64 0] 65)
    rw [made_u64] at this
    rw [made_u64]
    simpa using this

def mayB (n : Int) : Bool := decide (16 ≤ n) && decide (n ≤ 65536) && (n % 2 == 0)
set_option maxHeartbeats 1000000 in
theorem rmayA_any (w : World) (n : Int) : Calls Try.prog 36 #[.int .i64 n] w fun e w' => e = .returned (.bool (mayB n)) ∧ w = w' := by
  rcases (by omega : n < 16 ∨ (16 ≤ n ∧ 65536 < n) ∨ (16 ≤ n ∧ n ≤ 65536)) with h | ⟨h1, h2⟩ | ⟨h1, h2⟩
  · go_enter Try.func36, Try.ntmps36
    go_wp2
    go_ret
    exact ⟨ret_bool (by simp [mayB]; omega), rfl⟩
  · go_enter Try.func36, Try.ntmps36
    go_wp2
    go_ret
    exact ⟨ret_bool (by simp [mayB]; omega), rfl⟩
  · cases hm : (n % 2 == 0)
    all_goals
      go_enter Try.func36, Try.ntmps36
      go_wp2
      go_ret
      exact ⟨ret_bool (by simp [mayB, hm, h1, h2]), rfl⟩

section
variable (w : World) (B rb : Nat) (v : Value) (ws : List Int) (c : Nat) (h : IsRa w B rb v ws c)
include h

set_option maxHeartbeats 1000000 in
theorem rhas_any (i n : Int) (i0 : -9223372036854775808 ≤ i) (i1 : i ≤ 9223372036854775807) (n0 : -9223372036854775808 ≤ n) (n1 : n ≤ 9223372036854775807) :
    Calls Try.prog 74 #[.pointer (some ⟨rb, 0, none⟩), .int .i64 i, .int .i64 n] w fun e w' => e = .returned (.bool (hasE ws.length i n == 0)) ∧ w = w' := by
  obtain ⟨g, rs, rfl, _, _⟩ := h.form
  obtain ⟨c0, c1⟩ := h.s.c2
  have hl := h.hi
  clear h
  generalize rs.length = R at *
  generalize ws.length = L at *
  have hcs : i < 0 ∨ (0 ≤ i ∧ n < 0) ∨ (0 ≤ i ∧ 0 ≤ n ∧ (L : Int) < i) ∨ (0 ≤ i ∧ 0 ≤ n ∧ i ≤ L ∧ (L : Int) - i < n) ∨ (0 ≤ i ∧ 0 ≤ n ∧ i ≤ L ∧ n ≤ L - i) := by omega
  rcases hcs with h1 | ⟨h1, h2⟩ | ⟨h1, h2, h3⟩ | ⟨h1, h2, h3, h4⟩ | ⟨h1, h2, h3, h4⟩
  all_goals
    go_enter Try.func74, Try.ntmps74
    go_wp2
    go_ret
    exact ⟨ret_bool (by unfold hasE; first | (rw [if_pos (by omega)]; first | rfl | (simp; omega)) | (rw [if_neg (by omega)]; first | rfl | (simp; omega))), rfl⟩

set_option maxHeartbeats 1000000 in
theorem rloadA_any (i : Int) (i0 : -9223372036854775808 ≤ i) (i1 : i ≤ 9223372036854775807) : Calls Try.prog 65 #[.pointer (some ⟨rb, 0, none⟩), .int .i64 i] w fun e w' => e = .returned (.tuple #[.int .u64 (ldV ws i), .int .i64 (hasE ws.length i 1)]) ∧ w = w' := by
  have HC := Lib.hid (rhas_any w B rb v ws c h i 1 i0 i1 (by omega) (by omega))
  by_cases hh : hasE ws.length i 1 = 0
  · obtain ⟨h1, _, h2, h3⟩ := hasE_yes hh
    obtain ⟨j, rfl⟩ := Int.eq_ofNat_of_zero_le h1
    have hj : j < ws.length := by omega
    obtain ⟨g, rs, rfl, _, hB⟩ := h.form
    have hc : w.cell? ⟨g, j, none⟩ = some (.int .u64 (ws.getD j 0)) := by
      rw [hB.cell j]
      simp [List.getD, hj, List.getElem?_append]
    obtain ⟨c0, c1⟩ := h.s.c2
    have HV := Lib.hid (show ldV ws (j : Int) = ws.getD j 0 by simp [ldV, hh])
    have HH := Lib.hid hh
    have hj' : (j : Int) < (ws.length : Int) := by omega
    clear hh h i0 i1 h2 h3 hB
    generalize ws.getD j 0 = x at *
    go_enter Try.func65, Try.ntmps65
    go_wp2_with fail
    refine HC.out.mono ?_
    rintro e w' ⟨rfl, rfl⟩
    rw [HH.out, show ((0 : Int) == 0) = true by decide]
    go_wp2_with fail
    go_ret2
    rw [HV.out, HH.out]
    exact ⟨rfl, rfl⟩
  · have HV := Lib.hid (show ldV ws i = 0 by simp [ldV, hh])
    have HH := Lib.hid (hasE_no hh)
    clear hh h i0 i1
    go_enter Try.func65, Try.ntmps65
    go_wp2_with fail
    refine HC.out.mono ?_
    rintro e w' ⟨rfl, rfl⟩
    rw [HH.out, show ((2 : Int) == 0) = false by decide]
    go_wp2_with fail
    go_ret2
    rw [HV.out, HH.out]
    exact ⟨rfl, rfl⟩

set_option maxRecDepth 100000 in
set_option maxHeartbeats 4000000 in
theorem rput_any (i : Nat) (A : Option Addr) (m k : Nat) (l : List Int) (hr : Reads w w.heap.size 1 A m (l.map (Value.int .u64))) (hi : i + m ≤ ws.length) (hB : B ≤ w.heap.size) (hc : c ≤ 1000000000000) :
    Calls Try.prog 75 #[.pointer (some ⟨rb, 0, none⟩), .int .i64 (i : Int), .slice A m k] w (GivesRa B rb v (ws.take i ++ (l ++ ws.drop (i + m))) (c + m) (.tuple #[]) w) := by
  obtain ⟨g, rs, rfl, hBg, hG⟩ := h.form
  have hlen := h.hi
  have hlo := h.lo
  obtain ⟨c0, c1⟩ := h.s.c2
  have hle := h.le
  have hrb := h.s.lt
  have f0 := h.s.frozen 0
  have f1 := h.s.frozen 1
  have HP := Lib.hid (blk_part (j := 0) (m := i) hG (by omega))
  have HQ := Lib.hid (fun (hj : i + m ≤ ws.length) => blk_part (j := i + m) (m := ws.length - (i + m)) hG (by omega))
  have HI := Lib.hid h
  have HR := Lib.hid hr
  have hlm : l.length = m := by simpa using hr.1
  have HLM := Lib.hid hlm
  obtain ⟨i0, hi0, hz0, hz1, hz2⟩ := info_parts Try.infoU64
  have HII := Lib.hid hi0
  have Z0 := Lib.hid hz0
  have Z1 := Lib.hid hz1
  have Z2 := Lib.hid hz2
  have hgl := hG.lt
  clear hi0 hz0 hz1 hz2 h hG hr hlm
  have hcpl : ws.length ≤ ws.length + rs.length := by omega
  generalize hCP : ws.length + rs.length = CP at *
  generalize hN : ws.length = N at *
  have HN := Lib.hid hN
  clear hCP hN
  have e1 : ((i : Int) + (m : Int)).toNat = i + m := by omega
  have C0 := Lib.hid c0
  have C1 := Lib.hid c1
  have F0 := Lib.hid f0
  have F1 := Lib.hid f1
  by_cases hcut : CP = i + m
  · have hNi : N = i + m := by omega
    subst hcut
    subst hNi
    go_enter Try.func75, Try.ntmps75
    go_wp2_with (at_builtin; refine wpList_append_any _ rfl (.const (.slice none 0 0)) (.tmp 12) 40 rfl w.heap.size 22 i0 (.int .u64 0) 1 8 Try.underlying40 HII.out Z0.out Z1.out Z2.out rfl (by decide) (.slice none 0 0) 0 [] rfl (World.ownsRow_nil _ _ _ _) w.heap.size (some ⟨g, 0, none⟩) i (i + m) (((ws.drop 0).take i).map (Value.int .u64)) rfl HP.out (u64_one _) (by unfold maxLen; omega) (by omega) (Nat.le_refl _) ?_)
    intro v1 w1 hown1 hgr1 _
    have HB1 := Lib.hid (show Below w.heap.size w w1 from (Below.refl _ w).grown hgr1 (Nat.le_refl _) (by simp [Value.ownBlock]))
    have OW1 := Lib.hid (show w1.ownsRow w.heap.size 22 1 v1 i ((ws.take i).map (Value.int .u64)) by simpa using hown1)
    have hz1 := HB1.out.size
    clear hown1 hgr1 c0 c1
    go_wp2_with (at_builtin; refine wpList_append_any _ rfl (.tmp 14) (.tmp 15) 40 rfl w.heap.size 22 i0 (.int .u64 0) 1 8 Try.underlying40 HII.out Z0.out Z1.out Z2.out rfl (by decide) v1 i ((ws.take i).map (Value.int .u64)) rfl OW1.out w.heap.size A m k (l.map (Value.int .u64)) rfl (HR.out.below HB1.out) (u64_one _) (by unfold maxLen; omega) (by omega) hz1 ?_)
    intro v2 w2 hown2 hgr2 _
    have HB2 := Lib.hid (HB1.out.grown hgr2 hz1 (fun q e => (OW1.out.lt q e).1))
    have OW2 := Lib.hid hown2
    have hz2 := HB2.out.size
    have c0 := (HB2.out.cell (p := ⟨rb, 0, none⟩) hrb).trans C0.out
    have c1 := (HB2.out.cell (p := ⟨rb, 1, none⟩) hrb).trans C1.out
    clear hown2 hgr2 f0 f1
    go_wp2_with (at_builtin; refine wpList_append_any _ rfl (.tmp 18) (.tmp 27) 40 rfl w.heap.size 22 i0 (.int .u64 0) 1 8 Try.underlying40 HII.out Z0.out Z1.out Z2.out rfl (by decide) v2 (i + m) _ rfl OW2.out w.heap.size (some ⟨g, 0, none⟩) 0 0 [] rfl ⟨by simp, fun h => absurd h (by omega)⟩ (by simp) (by unfold maxLen; omega) (by omega) hz2 ?_)
    intro v3 w3 hown3 hgr3 _
    have HB3 := Lib.hid (HB2.out.grown hgr3 hz2 (fun q e => (OW2.out.lt q e).1))
    obtain ⟨A3, k3, hv3, _⟩ := own_form2' hown3
    rw [hv3] at hown3 ⊢
    have OW3 := Lib.hid hown3
    have hz3 := HB3.out.size
    have c0 := (HB3.out.cell (p := ⟨rb, 0, none⟩) hrb).trans C0.out
    have c1 := (HB3.out.cell (p := ⟨rb, 1, none⟩) hrb).trans C1.out
    have f0 := (HB3.out.frozen (p := ⟨rb, 0, none⟩) hrb).trans F0.out
    have f1 := (HB3.out.frozen (p := ⟨rb, 1, none⟩) hrb).trans F1.out
    have hu : IntKind.u64.wrap (m : Int) = (m : Int) := by simp [IntKind.wrap, IntKind.signed, IntKind.bits]; omega
    have hwr : IntKind.u64.wrap ((c : Int) + (m : Int)) = (c : Int) + (m : Int) := by simp [IntKind.wrap, IntKind.signed, IntKind.bits]; omega
    clear hown3 hgr3 hv3
    go_wp2_with fail
    go_end0
    refine ⟨rfl, .slice A3 (i + m) k3, ?_, .inr ?_, ?_⟩
    rotate_left
    · exact fun q e => (OW3.out.lt q e).1
    · exact ((Touch.of_below HB3.out).setCell (p := ⟨rb, 0, none⟩) (.inl rfl) _).setCell (p := ⟨rb, 1, none⟩) (.inl rfl) _
    · have hS := HI.out.s.nx HB3.out
      have hne : ∀ o : Nat, (Value.slice A3 (i + m) k3).ownBlock ≠ some (⟨rb, o, none⟩ : Addr).block := fun _ e => by
        have := (OW3.out.lt _ e).1
        simp at this
        omega
      have hL : (ws.take i ++ (l ++ ws.drop (i + m))).length = (i + m) := by simp [HLM.out, HN.out] <;> omega
      refine ⟨?_, ?_, by rw [hL]; omega, by rw [hL]; omega, hle⟩
      · have := (hS.set_ 0 (.slice A3 (i + m) k3)).set_ 1 (.int .u64 ((c : Int) + (m : Int)))
        simpa using this
      · have := ownsRow_setCell_other (ownsRow_setCell_other OW3.out (hne 0) (.slice A3 (i + m) k3)) (hne 1) (.int .u64 ((c : Int) + (m : Int)))
        have := own_baseA this hB
        rw [hL]
        simpa [List.drop_of_length_le (show ws.length ≤ i + m by rw [HN.out]; exact Nat.le_refl _)] using this
  · have hcut' : ¬ i + m = CP := fun e => hcut e.symm
    have hlt : (i : Int) + (m : Int) ≤ (CP : Int) := by omega
    have hn3 : i + m + (N - (i + m)) = N := by omega
    go_enter Try.func75, Try.ntmps75
    go_wp2_with (at_builtin; refine wpList_append_any _ rfl (.const (.slice none 0 0)) (.tmp 12) 40 rfl w.heap.size 22 i0 (.int .u64 0) 1 8 Try.underlying40 HII.out Z0.out Z1.out Z2.out rfl (by decide) (.slice none 0 0) 0 [] rfl (World.ownsRow_nil _ _ _ _) w.heap.size (some ⟨g, 0, none⟩) i CP (((ws.drop 0).take i).map (Value.int .u64)) rfl HP.out (u64_one _) (by unfold maxLen; omega) (by omega) (Nat.le_refl _) ?_)
    intro v1 w1 hown1 hgr1 _
    have HB1 := Lib.hid (show Below w.heap.size w w1 from (Below.refl _ w).grown hgr1 (Nat.le_refl _) (by simp [Value.ownBlock]))
    have OW1 := Lib.hid (show w1.ownsRow w.heap.size 22 1 v1 i ((ws.take i).map (Value.int .u64)) by simpa using hown1)
    have hz1 := HB1.out.size
    clear hown1 hgr1 c0 c1
    go_wp2_with (at_builtin; refine wpList_append_any _ rfl (.tmp 14) (.tmp 15) 40 rfl w.heap.size 22 i0 (.int .u64 0) 1 8 Try.underlying40 HII.out Z0.out Z1.out Z2.out rfl (by decide) v1 i ((ws.take i).map (Value.int .u64)) rfl OW1.out w.heap.size A m k (l.map (Value.int .u64)) rfl (HR.out.below HB1.out) (u64_one _) (by unfold maxLen; omega) (by omega) hz1 ?_)
    intro v2 w2 hown2 hgr2 _
    have HB2 := Lib.hid (HB1.out.grown hgr2 hz1 (fun q e => (OW1.out.lt q e).1))
    have OW2 := Lib.hid hown2
    have hz2 := HB2.out.size
    have c0 := (HB2.out.cell (p := ⟨rb, 0, none⟩) hrb).trans C0.out
    have c1 := (HB2.out.cell (p := ⟨rb, 1, none⟩) hrb).trans C1.out
    clear hown2 hgr2 f0 f1
    go_wp2_with (at_builtin; refine wpList_append_any _ rfl (.tmp 18) (.tmp 27) 40 rfl w.heap.size 22 i0 (.int .u64 0) 1 8 Try.underlying40 HII.out Z0.out Z1.out Z2.out rfl (by decide) v2 (i + m) _ rfl OW2.out w.heap.size (some ⟨g, i + m, none⟩) (N - (i + m)) (CP - (i + m)) (((ws.drop (i + m)).take (N - (i + m))).map (Value.int .u64)) rfl ((HQ.out (by omega)).below HB2.out) (u64_one _) (by unfold maxLen; omega) (by omega) hz2 ?_)
    intro v3 w3 hown3 hgr3 _
    have HB3 := Lib.hid (HB2.out.grown hgr3 hz2 (fun q e => (OW2.out.lt q e).1))
    obtain ⟨A3, k3, hv3, _⟩ := own_form2' hown3
    rw [hv3] at hown3 ⊢
    have OW3 := Lib.hid hown3
    have hz3 := HB3.out.size
    have c0 := (HB3.out.cell (p := ⟨rb, 0, none⟩) hrb).trans C0.out
    have c1 := (HB3.out.cell (p := ⟨rb, 1, none⟩) hrb).trans C1.out
    have f0 := (HB3.out.frozen (p := ⟨rb, 0, none⟩) hrb).trans F0.out
    have f1 := (HB3.out.frozen (p := ⟨rb, 1, none⟩) hrb).trans F1.out
    have hu : IntKind.u64.wrap (m : Int) = (m : Int) := by simp [IntKind.wrap, IntKind.signed, IntKind.bits]; omega
    have hwr : IntKind.u64.wrap ((c : Int) + (m : Int)) = (c : Int) + (m : Int) := by simp [IntKind.wrap, IntKind.signed, IntKind.bits]; omega
    clear hown3 hgr3 hv3
    go_wp2_with fail
    go_end0
    refine ⟨rfl, .slice A3 N k3, ?_, .inr ?_, ?_⟩
    rotate_left
    · exact fun q e => (OW3.out.lt q e).1
    · exact ((Touch.of_below HB3.out).setCell (p := ⟨rb, 0, none⟩) (.inl rfl) _).setCell (p := ⟨rb, 1, none⟩) (.inl rfl) _
    · have hS := HI.out.s.nx HB3.out
      have hne : ∀ o : Nat, (Value.slice A3 N k3).ownBlock ≠ some (⟨rb, o, none⟩ : Addr).block := fun _ e => by
        have := (OW3.out.lt _ e).1
        simp at this
        omega
      have hL : (ws.take i ++ (l ++ ws.drop (i + m))).length = N := by simp [HLM.out, HN.out] <;> omega
      refine ⟨?_, ?_, by rw [hL]; omega, by rw [hL]; omega, hle⟩
      · have := (hS.set_ 0 (.slice A3 N k3)).set_ 1 (.int .u64 ((c : Int) + (m : Int)))
        simpa using this
      · have := ownsRow_setCell_other (ownsRow_setCell_other OW3.out (hne 0) (.slice A3 N k3)) (hne 1) (.int .u64 ((c : Int) + (m : Int)))
        have := own_baseA this hB
        rw [hL]
        rw [List.take_of_length_le (show (List.drop (i + m) (ws.map (Value.int .u64))).length ≤ N - (i + m) by rw [List.length_drop, List.length_map, HN.out]; exact Nat.le_refl _)] at this
        simpa [hn3] using this
end
end Go.Proofs.Ytehicgndccnopaa
