/- Tables: Put. -/
import Derived.Test.YtehicgndccnopaaTableF
import Derived.Test.YtehicgndccnopaaRefA
import Derived.Laws.BytesArg
namespace Go.Proofs.Ytehicgndccnopaa
open Go.RowKit
set_option linter.unusedVariables false
set_option linter.unusedSimpArgs false

/-- The bytes of a type, of a table. -/
def maskB (m c : Nat) : List Int := (List.range c).map fun k => (m : Int) / 2 ^ (8 * k) % 256
def tyB (t : Ty) : List Int := t.1 :: t.2.1 % 256 :: maskB t.2.2 8
def putB (ts : List Ty) : List Int := (ts.length : Int) % 256 :: ts.flatMap tyB
theorem maskB_succ (m c : Nat) : maskB m (c + 1) = maskB m c ++ [(m : Int) / 2 ^ (8 * c) % 256] := by simp [maskB, List.range_succ]
theorem maskB_len (m c : Nat) : (maskB m c).length = c := by simp [maskB]
theorem tysB_len (ts : List Ty) : (ts.flatMap tyB).length = ts.length * 10 := by
  induction ts with
  | nil => rfl
  | cons t ts ih => simp [List.flatMap_cons, ih, tyB, maskB_len]; omega

theorem wrap_u8 (x : Int) : IntKind.u8.wrap x = x % 256 := by simp [IntKind.wrap, IntKind.signed, IntKind.bits]

theorem Try.infoU8 : (Try.prog.info? 5).map (fun i => (i.zero, i.size, i.bytes)) = some (some (.int .u8 0), 1, 1) := by kernel_rfl

theorem lit_u8 (w : World) (g : Nat) (zs : List Int) (hg : g = w.heap.size) {B : Nat} (hB : g < B) : Reads (w.alloc (.cells (zs.map (Value.int .u8)).toArray 5)) B 1 (some ⟨g, 0, none⟩) zs.length (zs.map (Value.int .u8)) :=
  ⟨by simp, fun _ => ⟨_, rfl, hB, fun j u hu => by
    have e : (⟨g, 0, none⟩ : Addr).add j = ⟨g, j, none⟩ := by unfold Addr.add; split <;> simp_all
    rw [e, (Blk.new_at w g 5 _ hg).cell j]
    simpa using hu⟩⟩
theorem u8_one (zs : List Int) : ∀ u ∈ zs.map (Value.int .u8), u.oneCell' = true := by
  intro u hu
  obtain ⟨z, _, rfl⟩ := List.mem_map.1 hu
  rfl

set_option maxRecDepth 100000 in
set_option maxHeartbeats 2000000 in
theorem put_bytes (w : World) (B tb g : Nat) (v : Value) (ts : List Ty) (h : IsTb w B tb g v ts) (hok : ∀ t ∈ ts, OkW t) :
    Calls Try.prog 51 #[.pointer (some ⟨tb, 0, none⟩)] w fun e w' => e = .returned (.string (strOfNums (putB ts))) ∧ Below w.heap.size w w' := by
  obtain ⟨A, c, rfl, hnc⟩ := own_form h.r
  have c0 := h.s.c1
  have htb := h.s.lt
  have hh := h.hi
  have hr := Reads.of_own h.r
  obtain ⟨n, hn⟩ : ∃ n, n = ts.length := ⟨_, rfl⟩
  rw [← hn] at c0 hh hr
  have HR := Lib.hid hr
  have HN := Lib.hid hn
  have HO := Lib.hid hok
  clear h hok hn hr hnc
  obtain ⟨i0, hi, hz0, hz1, hz2⟩ := info_parts Try.infoU8
  have HI := Lib.hid hi
  have Z0 := Lib.hid hz0
  have Z1 := Lib.hid hz1
  have Z2 := Lib.hid hz2
  clear hi hz0 hz1 hz2
  go_enter Try.func51, Try.ntmps51
  go_wp2_with fail
  go_loopw [3, 23] (fun b i wr => ∃ k : Nat, k ≤ n ∧ i = .int .i64 (k : Int) ∧ wr.ownsRow w.heap.size 5 1 b (1 + k * 10) (((n : Int) :: (ts.take k).flatMap tyB).map (Value.int .u8)) ∧ Below w.heap.size w wr) (fun _ i _ => n - (intOf i).toNat)
  case atStart =>
    refine ⟨0, by omega, rfl, ?_, balloc (Below.refl _ w) _⟩
    have := World.ownsRow_lit w #[.int .u8 (n : Int)] (e := 5) (size := 1) 1 (Nat.le_refl _) (by unfold maxLen; omega) rfl
    simpa using this
  case round =>
    obtain ⟨k, hk, rfl, hown, hbl⟩ := hrel
    obtain ⟨wo, rfl⟩ : ∃ wo : World, wo = wr := ⟨_, rfl⟩
    by_cases hlt : k < n
    · obtain ⟨b, o, rfl, hb, d0, d1, d2⟩ := HR.out.ty hlt
      have e0 := (hbl.cell (p := ⟨b, o + k * 3, none⟩) hb).trans d0
      have e1 := (hbl.cell (p := ⟨b, o + k * 3 + 1, none⟩) hb).trans d1
      have e2 := (hbl.cell (p := ⟨b, o + k * 3 + 2, none⟩) hb).trans d2
      have hw := HO.out _ (getD_mem ts k (0, 0, 0) (by rw [← HN.out]; exact hlt))
      have HT := Lib.hid (take_getD ts k (0, 0, 0) (by rw [← HN.out]; exact hlt))
      clear d0 d1 d2
      generalize ts.getD k (0, 0, 0) = t at *
      obtain ⟨t1, t2, t3⟩ := t
      have hm := hw.m1
      have OWN := Lib.hid hown
      have BL := Lib.hid hbl
      have hsz := hbl.size
      have BX := Lib.hid (Blk.new wo 24 #[.int .u8 t1, .int .i64 t2, .int .u64 (t3 : Int)])
      have NE := Lib.hid (own_blk_ne (OWN.out.alloc _) BX.out (by decide))
      clear hown hbl hw
      go_wp2_with (at_builtin; refine wpList_append_any _ rfl (.tmp 27) (.tmp 33) 109 rfl w.heap.size 5 i0 (.int .u8 0) 1 1 Try.underlying109 HI.out Z0.out Z1.out Z2.out rfl (by decide) _ _ _ rfl ((OWN.out.alloc _).alloc _) (wo.heap.size + 2) (some ⟨wo.heap.size + 1, 0, none⟩) 2 2 ([t1, t2 % 256].map (Value.int .u8)) rfl (lit_u8 (wo.alloc _) _ [t1, t2 % 256] (by simp) (by omega)) (u8_one _) (by unfold maxLen; omega) (by omega) (by simp; omega) ?_)
      intro v1 w1 hown1 hgr1 _
      have OWN1 := Lib.hid hown1
      have BX1 := Lib.hid ((BX.out.alloc _).grown hgr1 (fun e => NE.out e.symm))
      have BL1 := Lib.hid (((BL.out.alloc hsz _).alloc (by simp; omega) _).grown hgr1 (by simp; omega) (fun k e => (OWN.out.lt k e).1))
      clear hown1 hgr1 e0 e1 e2
      go_wp2_with fail
      go_loopw [3, 35] (fun b i wr => ∃ q : Nat, q ≤ 8 ∧ i = .int .i64 (q : Int) ∧ wr.ownsRow w.heap.size 5 1 b (1 + k * 10 + 2 + q) ((((n : Int) :: (ts.take k).flatMap tyB) ++ t1 :: t2 % 256 :: maskB t3 q).map (Value.int .u8)) ∧ Blk wr wo.heap.size 24 #[.int .u8 t1, .int .i64 t2, .int .u64 (t3 : Int)] ∧ Below w.heap.size w wr) (fun _ i _ => 8 - (intOf i).toNat)
      case atStart =>
        refine ⟨0, by omega, rfl, ?_, BX1.out, BL1.out⟩
        have := OWN1.out
        simpa [maskB] using this
      case round =>
        obtain ⟨q, hq, rfl, hown, hbx, hbl⟩ := hrel
        by_cases hlt8 : q < 8
        · obtain ⟨c0, c1, c2⟩ := hbx.c3
          have hsz2 := hbl.size
          have OWN := Lib.hid hown
          have BX := Lib.hid hbx
          have BL := Lib.hid hbl
          have NE := Lib.hid (own_blk_ne OWN.out BX.out (by decide))
          clear hown hbx hbl
          go_wp2_with (at_builtin; refine wpList_append_any _ rfl (.tmp 38) (.tmp 45) 109 rfl w.heap.size 5 i0 (.int .u8 0) 1 1 Try.underlying109 HI.out Z0.out Z1.out Z2.out rfl (by decide) _ _ _ rfl (OWN.out.alloc _) (wr.heap.size + 1) (some ⟨wr.heap.size, 0, none⟩) 1 1 ([(t3 : Int) / 2 ^ (8 * q) % 256].map (Value.int .u8)) rfl (lit_u8 wr _ [(t3 : Int) / 2 ^ (8 * q) % 256] rfl (by omega)) (u8_one _) (by unfold maxLen; omega) (by omega) (by simp; omega) ?_)
          intro v2 w2 hown2 hgr2 _
          have OWN2 := Lib.hid hown2
          have BX2 := Lib.hid ((BX.out.alloc _).grown hgr2 (fun e => NE.out e.symm))
          have BL2 := Lib.hid ((BL.out.alloc hsz2 _).grown hgr2 (by simp; omega) (fun k e => (OWN.out.lt k e).1))
          clear hown2 hgr2 c0 c1 c2
          go_wp2_with fail
          go_roundw
          case rel =>
            refine ⟨q + 1, by omega, by go_num, ?_, BX2.out, BL2.out⟩
            rw [maskB_succ]
            have := OWN2.out
            simpa [Nat.add_assoc] using this
          case measure => simp [intOf]; omega
        · obtain rfl : q = 8 := by omega
          have OWN := Lib.hid hown
          have BL := Lib.hid hbl
          clear hown hbl hbx
          go_wp2_with fail
          go_roundw
          case rel =>
            refine ⟨k + 1, by omega, by go_num, ?_, BL.out⟩
            rw [HT.out]
            have := OWN.out
            simpa [tyB, List.flatMap_append, Nat.add_mul, Nat.add_assoc] using this
          case measure => simp [intOf]; omega
    · obtain rfl : k = n := by omega
      obtain ⟨A1, c1, hv, _⟩ := own_form hown
      rw [hv] at hown ⊢
      clear hv
      have hr := Reads.of_own hown
      obtain ⟨b1, o1, hA, hb1, hcell⟩ := hr.spotN (by omega) (by omega)
      subst hA
      have hl : ((k : Int) :: (ts.take k).flatMap tyB).length = 1 + k * 10 := by have := hr.1; simpa using this
      have hcv := run_convert_bytes_arg (P := Try.prog) wo 109 5 Try.underlying109 Try.underlying5 b1 o1 (1 + k * 10) c1 ((k : Int) :: (ts.take k).flatMap tyB) hl (fun i hi => hcell i _ (by
        rw [List.getElem?_map, List.getElem?_eq_getElem (by rw [hl]; exact hi)]
        simp [List.getD, List.getElem?_eq_getElem (show i < ((k : Int) :: (ts.take k).flatMap tyB).length by rw [hl]; exact hi)])) 9 Try.underlying9
      have BL := Lib.hid hbl
      have HP := Lib.hid (show ((k : Int) :: (ts.take k).flatMap tyB) = putB ts by
        rw [List.take_of_length_le (by rw [← HN.out]; exact Nat.le_refl _), putB, ← HN.out, Int.emod_eq_of_lt (by omega) (by omega)])
      rw [HP.out] at hcv
      clear hown hbl hr hl hcell
      go_wp2_with fail
      go_ret
      exact ⟨rfl, BL.out⟩
end Go.Proofs.Ytehicgndccnopaa
