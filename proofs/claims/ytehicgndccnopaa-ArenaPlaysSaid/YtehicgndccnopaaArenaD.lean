/- Arenas: Writes, Copy, Move. -/
import Derived.Test.YtehicgndccnopaaArenaC
import Derived.StillTailTactics
import Derived.IntWalk
import Derived.Laws.CopyOwn
import Derived.Laws.CopyRow
import Derived.Deep.RegionHeld3
namespace Go.Proofs.Ytehicgndccnopaa
open Go.RowKit
set_option linter.unusedVariables false
set_option linter.unusedSimpArgs false

/-- The words behind a Move. -/
def moveL (ws : List Int) (t f n : Nat) : List Int := ws.take t ++ ((ws.drop f).take n ++ ws.drop (t + n))
def mvE (len : Nat) (t f n : Int) : Int := if hasE len f n = 0 then hasE len t n else hasE len f n
def mvW (ws : List Int) (t f n : Int) : List Int := if mvE ws.length t f n = 0 then moveL ws t.toNat f.toNat n.toNat else ws
def mvC (ws : List Int) (t f n : Int) (c : Nat) : Nat := if mvE ws.length t f n = 0 then c + n.toNat else c

theorem moveL_zero (ws : List Int) (t f : Nat) : moveL ws t f 0 = ws := by simp [moveL]

section
variable (w : World) (bs br : Nat) (ws : List Int) (rs : List Value) (c : Nat) (h : IsAr w bs br ws rs c)
include h

theorem writes_any : Calls Try.prog 33 #[.pointer (some ⟨bs, 0, none⟩)] w fun e w' => e = .returned (.int .u64 (c : Int)) ∧ w = w' := by
  obtain ⟨c0, c1⟩ := h.s.c2
  go_enter Try.func33, Try.ntmps33
  go_wp2
  go_ret
  exact ⟨rfl, rfl⟩

set_option maxRecDepth 100000 in
set_option maxHeartbeats 1000000 in
theorem move_ok (j i m : Nat) (hj : j + m ≤ ws.length) (hi : i + m ≤ ws.length) (hm : 0 < m) (hc : c ≤ 1000000000000) :
    Calls Try.prog 30 #[.pointer (some ⟨bs, 0, none⟩), .int .i64 (j : Int), .int .i64 (i : Int), .int .i64 (m : Int)] w fun e w' =>
    e = .returned (.int .i64 0) ∧ IsAr w' bs br (moveL ws j i m) rs (c + m) ∧ Touch bs br w w' := by
  have hlen := h.hi
  have H1 := Lib.hid (has_any w bs br ws rs c h (i : Int) (m : Int) (by omega) (by omega) (by omega) (by omega))
  have H2 := Lib.hid (has_any w bs br ws rs c h (j : Int) (m : Int) (by omega) (by omega) (by omega) (by omega))
  have E1 := Lib.hid (hasE_is (len := ws.length) (i := (i : Int)) (n := (m : Int)) (by omega))
  have E2 := Lib.hid (hasE_is (len := ws.length) (i := (j : Int)) (n := (m : Int)) (by omega))
  obtain ⟨c0, c1⟩ := h.s.c2
  have HI := Lib.hid h
  have e1 : IntKind.i64.wrap ((j : Int) + (m : Int)) = (j : Int) + (m : Int) := IntWalk.i64_in _ (by omega)
  have e2 : IntKind.i64.wrap ((i : Int) + (m : Int)) = (i : Int) + (m : Int) := IntWalk.i64_in _ (by omega)
  have e3 : ((j : Int) + (m : Int)).toNat = j + m := by omega
  have e4 : ((i : Int) + (m : Int)).toNat = i + m := by omega
  clear h
  generalize hCP : ws.length + rs.length = CP at *
  have HCP := Lib.hid hCP
  have hlc : ws.length ≤ CP := by omega
  clear hCP
  generalize hL : ws.length = L at *
  have HL := Lib.hid hL
  clear hL
  have a1 : (0 : Int) ≤ (j : Int) := by omega
  have a2 : (j : Int) ≤ (j : Int) + (m : Int) := by omega
  have a3 : (j : Int) + (m : Int) ≤ (CP : Int) := by omega
  have a4 : ¬ j + m = j := by omega
  have a5 : ¬ m = 0 := by omega
  have b1 : (0 : Int) ≤ (i : Int) := by omega
  have b2 : (i : Int) ≤ (i : Int) + (m : Int) := by omega
  have b3 : (i : Int) + (m : Int) ≤ (CP : Int) := by omega
  have b4 : ¬ CP = i := by omega
  go_enter Try.func30, Try.ntmps30
  go_wp2_with fail
  refine H1.out.mono ?_
  rintro e w' ⟨rfl, rfl⟩
  rw [E1.out]
  go_wp2_with fail
  refine H2.out.mono ?_
  rintro e w' ⟨rfl, rfl⟩
  rw [E2.out]
  go_wp2_with fail
  go_still_tail 21, (by kernel_rfl)
  change wpList _ _ _ _ _ w.drew
  clear e1 e2 e3 e4 a1 a2 a3 a4 a5 b1 b2 b3 b4
  have HP := HI.out.part (j := i) (m := m) w bs br ws rs c (by rw [HL.out]; omega)
  refine wpList_copy_own rfl (.tmp 36) (.tmp 45) 40 40 rfl 22 Try.underlying40 (by kernel_rfl) br j m m ⟨br, i, none⟩ m (CP - i) rfl rfl _ _ HI.out.r (((ws.drop i).take m).map (Value.int .u64)) (by simp [HL.out]; omega) (fun q v hq => by
    obtain ⟨ad, e, _, hcl⟩ := HP.2 hm
    obtain rfl : ad = ⟨br, i, none⟩ := (Option.some.inj e).symm
    exact hcl q v hq) (by simp; rw [HL.out]; omega) (fun v hv => by obtain ⟨z, _, rfl⟩ := List.mem_map.1 hv; rfl) ?_
  have hrow : (((ws.map (Value.int .u64) ++ rs).toArray.toList.take j ++ (((ws.drop i).take m).map (Value.int .u64) ++ (ws.map (Value.int .u64) ++ rs).toArray.toList.drop (j + (((ws.drop i).take m).map (Value.int .u64)).length))).toArray) = ((moveL ws j i m).map (Value.int .u64) ++ rs).toArray := by
    have hl : (((ws.drop i).take m).map (Value.int .u64)).length = m := by simp [HL.out]; omega
    rw [hl]
    have h1 : j ≤ (ws.map (Value.int .u64)).length := by rw [List.length_map, HL.out]; omega
    have h2 : j + m ≤ (ws.map (Value.int .u64)).length := by rw [List.length_map, HL.out]; omega
    simp [moveL, List.map_append, List.map_take, List.map_drop, List.take_append_of_le_length h1, List.drop_append_of_le_length h2]
  rw [hrow]
  have hlen2 : (moveL ws j i m).length = ws.length := by simp [moveL]; rw [HL.out]; omega
  have hS : Blk (w.drew.setRow br ((moveL ws j i m).map (Value.int .u64) ++ rs).toArray) bs 98 #[.slice (some ⟨br, 0, none⟩) ws.length (ws.length + rs.length), .int .u64 (c : Int)] := (setRow_other w.drew br bs _ HI.out.ne).trans HI.out.s
  have hR : Blk (w.drew.setRow br ((moveL ws j i m).map (Value.int .u64) ++ rs).toArray) br 22 ((moveL ws j i m).map (Value.int .u64) ++ rs).toArray := setRow_heap w.drew br _ _ _ _ HI.out.r
  have hT : Touch bs br w (w.drew.setRow br ((moveL ws j i m).map (Value.int .u64) ++ rs).toArray) := ⟨rfl, rfl, rfl, by simp [World.setRow], fun k hk h1 h2 => setRow_other w.drew br k _ h2⟩
  have hgi : goInt (((ws.drop i).take m).map (Value.int .u64)).length = .int .i64 (m : Int) := by
    have hl : (((ws.drop i).take m).map (Value.int .u64)).length = m := by simp [HL.out]; omega
    rw [hl]; rfl
  rw [hgi]
  generalize w.drew.setRow br ((moveL ws j i m).map (Value.int .u64) ++ rs).toArray = W1 at *
  obtain ⟨d0, d1⟩ := hS.c2
  have hf1 := hS.frozen 1
  have HS := Lib.hid hS
  have HR := Lib.hid hR
  have HT := Lib.hid hT
  have HN := Lib.hid hlen2
  have hu : IntKind.u64.wrap (m : Int) = (m : Int) := by simp [IntKind.wrap, IntKind.signed, IntKind.bits]; omega
  have hwr : IntKind.u64.wrap ((c : Int) + (m : Int)) = (c : Int) + (m : Int) := by simp [IntKind.wrap, IntKind.signed, IntKind.bits]; omega
  clear hrow hgi HP hS hR hT hlen2 c0 c1
  go_wp2_with fail
  go_ret
  refine ⟨rfl, ⟨?_, ?_, HI.out.ne, by rw [HN.out]; exact HI.out.lo, by rw [HN.out]; exact HI.out.hi⟩, HT.out.setCell (.inl rfl) _⟩
  · have := HS.out.set_ 1 (.int .u64 ((c : Int) + (m : Int)))
    rw [HN.out]
    simpa using this
  · exact HR.out.far (p := ⟨bs, 1, none⟩) (fun e => HI.out.ne e.symm) _

set_option maxRecDepth 100000 in
set_option maxHeartbeats 1000000 in
theorem move_zero (j i : Nat) (hj : j ≤ ws.length) (hi : i ≤ ws.length) (hc : c ≤ 1000000000000) :
    Calls Try.prog 30 #[.pointer (some ⟨bs, 0, none⟩), .int .i64 (j : Int), .int .i64 (i : Int), .int .i64 0] w fun e w' =>
    e = .returned (.int .i64 0) ∧ IsAr w' bs br ws rs c ∧ Touch bs br w w' := by
  have hlen := h.hi
  have H1 := Lib.hid (has_any w bs br ws rs c h (i : Int) 0 (by omega) (by omega) (by omega) (by omega))
  have H2 := Lib.hid (has_any w bs br ws rs c h (j : Int) 0 (by omega) (by omega) (by omega) (by omega))
  have E1 := Lib.hid (hasE_is (len := ws.length) (i := (i : Int)) (n := 0) (by omega))
  have E2 := Lib.hid (hasE_is (len := ws.length) (i := (j : Int)) (n := 0) (by omega))
  obtain ⟨c0, c1⟩ := h.s.c2
  have hf1 := h.s.frozen 1
  have HI := Lib.hid h
  have e1 : IntKind.i64.wrap (j : Int) = (j : Int) := IntWalk.i64_in _ (by omega)
  have e2 : IntKind.i64.wrap (i : Int) = (i : Int) := IntWalk.i64_in _ (by omega)
  clear h
  generalize hCP : ws.length + rs.length = CP at *
  have HCP := Lib.hid hCP
  have hlc : ws.length ≤ CP := by omega
  clear hCP
  generalize hL : ws.length = L at *
  have HL := Lib.hid hL
  clear hL
  have a1 : (0 : Int) ≤ (j : Int) := by omega
  have a3 : (j : Int) ≤ (CP : Int) := by omega
  have b1 : (0 : Int) ≤ (i : Int) := by omega
  have b3 : (i : Int) ≤ (CP : Int) := by omega
  by_cases b4 : CP = i
  all_goals
    have B4 := Lib.hid b4
    first | (subst b4) | skip
    go_enter Try.func30, Try.ntmps30
    go_wp2_with fail
    refine H1.out.mono ?_
    rintro e w' ⟨rfl, rfl⟩
    rw [E1.out]
    go_wp2_with fail
    refine H2.out.mono ?_
    rintro e w' ⟨rfl, rfl⟩
    rw [E2.out]
    go_wp2_with fail
    go_still_tail 21, (by kernel_rfl)
    change wpList _ _ _ _ _ w.drew
    clear e1 e2 a1 a3 b1 b3
    refine wpList_copy_nothing rfl (.tmp 36) (.tmp 45) 40 40 rfl 22 Try.underlying40 (by kernel_rfl) _ _ 0 _ 0 _ rfl rfl rfl ?_
    have hwr : IntKind.u64.wrap ((c : Int)) = (c : Int) := by simp [IntKind.wrap, IntKind.signed, IntKind.bits]; omega
    go_wp2_with fail
    go_ret
    refine ⟨rfl, ⟨?_, ?_, HI.out.ne, HI.out.lo, HI.out.hi⟩, ((Touch.refl bs br w).drewN 1).setCell (.inl rfl) _⟩
    · have := HI.out.s.set_ 1 (.int .u64 (c : Int))
      have h2 : Blk (w.setCell ⟨bs, 1, none⟩ (.int .u64 (c : Int))) bs 98 #[.slice (some ⟨br, 0, none⟩) ws.length (ws.length + rs.length), .int .u64 (c : Int)] := by simpa using this
      exact h2.drew
    · exact HI.out.r.far (p := ⟨bs, 1, none⟩) (fun e => HI.out.ne e.symm) _

set_option maxHeartbeats 1000000 in
theorem move_any (t f n : Int) (t0 : -9223372036854775808 ≤ t) (t1 : t ≤ 9223372036854775807) (f0 : -9223372036854775808 ≤ f) (f1 : f ≤ 9223372036854775807) (n0 : -9223372036854775808 ≤ n) (n1 : n ≤ 9223372036854775807) (hc : c ≤ 1000000000000) :
    Calls Try.prog 30 #[.pointer (some ⟨bs, 0, none⟩), .int .i64 t, .int .i64 f, .int .i64 n] w fun e w' =>
    e = .returned (.int .i64 (mvE ws.length t f n)) ∧ IsAr w' bs br (mvW ws t f n) rs (mvC ws t f n c) ∧ Touch bs br w w' := by
  by_cases hf : hasE ws.length f n = 0
  · by_cases ht : hasE ws.length t n = 0
    · have he : mvE ws.length t f n = 0 := by simp [mvE, hf, ht]
      obtain ⟨h1, h2, h3, h4⟩ := hasE_yes hf
      obtain ⟨g1, g2, g3, g4⟩ := hasE_yes ht
      obtain ⟨i, rfl⟩ := Int.eq_ofNat_of_zero_le h1
      obtain ⟨m, rfl⟩ := Int.eq_ofNat_of_zero_le h2
      obtain ⟨j, rfl⟩ := Int.eq_ofNat_of_zero_le g1
      have e1 : mvW ws (j : Int) (i : Int) (m : Int) = moveL ws j i m := by simp [mvW, he]
      have e2 : mvC ws (j : Int) (i : Int) (m : Int) c = c + m := by simp [mvC, he]
      rw [he, e1, e2]
      rcases Nat.eq_zero_or_pos m with h0 | h0
      · subst h0
        rw [moveL_zero]
        exact move_zero w bs br ws rs c h j i (by omega) (by omega) hc
      · exact move_ok w bs br ws rs c h j i m (by omega) (by omega) h0 hc
    · have he : mvE ws.length t f n = 2 := by simp [mvE, hf, hasE_no ht]
      have e1 : mvW ws t f n = ws := by simp [mvW, he]
      have e2 : mvC ws t f n c = c := by simp [mvC, he]
      rw [he, e1, e2]
      have H1 := Lib.hid (has_any w bs br ws rs c h f n f0 f1 n0 n1)
      have H2 := Lib.hid (has_any w bs br ws rs c h t n t0 t1 n0 n1)
      have E1 := Lib.hid hf
      have E2 := Lib.hid (hasE_no ht)
      have HI := Lib.hid h
      clear h hf ht he e1 e2 t0 t1 f0 f1 n0 n1
      go_enter Try.func30, Try.ntmps30
      go_wp2_with fail
      refine H1.out.mono ?_
      rintro e w' ⟨rfl, rfl⟩
      rw [E1.out]
      go_wp2_with fail
      refine H2.out.mono ?_
      rintro e w' ⟨rfl, rfl⟩
      rw [E2.out]
      go_wp2_with fail
      go_ret
      exact ⟨rfl, HI.out, Touch.refl _ _ _⟩
  · have he : mvE ws.length t f n = 2 := by simp [mvE, hasE_no hf]
    have e1 : mvW ws t f n = ws := by simp [mvW, he]
    have e2 : mvC ws t f n c = c := by simp [mvC, he]
    rw [he, e1, e2]
    have H1 := Lib.hid (has_any w bs br ws rs c h f n f0 f1 n0 n1)
    have E1 := Lib.hid (hasE_no hf)
    have HI := Lib.hid h
    clear h hf he e1 e2 t0 t1 f0 f1 n0 n1
    go_enter Try.func30, Try.ntmps30
    go_wp2_with fail
    refine H1.out.mono ?_
    rintro e w' ⟨rfl, rfl⟩
    rw [E1.out]
    go_wp2_with fail
    go_ret
    exact ⟨rfl, HI.out, Touch.refl _ _ _⟩
end
end Go.Proofs.Ytehicgndccnopaa
