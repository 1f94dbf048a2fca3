/- Tables: Read. -/
import Derived.Test.YtehicgndccnopaaTableP
import Derived.BigRegion
import Derived.Laws.Bits64b
import Derived.IntWalk
namespace Go.Proofs.Ytehicgndccnopaa
open Go.RowKit
set_option linter.unusedVariables false
set_option linter.unusedSimpArgs false

/-- One byte of a string. -/
def byt (s : ByteArray) (j : Nat) : Nat := (s.data.toList.getD j 0).toNat
theorem byt_lt (s : ByteArray) (j : Nat) : byt s j < 256 := (s.data.toList.getD j 0).toNat_lt
theorem byt_get (s : ByteArray) (j : Nat) (h : j < s.size) : (s[j]'h).toNat = byt s j := by
  have h2 : j < s.data.toList.length := by simpa using h
  simp only [byt, List.getD, List.getElem?_eq_getElem h2, Option.getD_some]
  rfl

/-- The mask of eight bytes, from a on: of the first q of them. -/
def maskUp (s : ByteArray) (a : Nat) : Nat → Nat
  | 0 => 0
  | q + 1 => maskUp s a q + byt s (a + q) * 2 ^ (8 * q)
theorem maskUp_lt (s : ByteArray) (a : Nat) : ∀ q, maskUp s a q < 2 ^ (8 * q)
  | 0 => by simp [maskUp]
  | q + 1 => by
    have h1 := maskUp_lt s a q
    have h2 := byt_lt s (a + q)
    have h3 : (byt s (a + q) + 1) * 2 ^ (8 * q) ≤ 256 * 2 ^ (8 * q) := Nat.mul_le_mul_right _ (by omega)
    have h4 : 2 ^ (8 * (q + 1)) = 256 * 2 ^ (8 * q) := by rw [Nat.mul_add, Nat.pow_add]; omega
    rw [maskUp, h4]
    rw [Nat.add_mul] at h3
    omega
/-- The type that stands at a place. -/
def tyAt (s : ByteArray) (i : Nat) : Ty := ((byt s (1 + 10 * i) : Int), (byt s (1 + 10 * i + 1) : Int), maskUp s (1 + 10 * i + 2) 8)
def tysAt (s : ByteArray) (n : Nat) : List Ty := (List.range n).map (tyAt s)
theorem or_addB {a x v : Nat} (hx : x < 2 ^ a) (hv : v * 2 ^ a < 18446744073709551616) (hx2 : x < 18446744073709551616) :
    bits .or .u64 (x : Int) ((v * 2 ^ a : Nat) : Int) = ((x + v * 2 ^ a : Nat) : Int) := by
  rw [bits_or_u64_nat x (v * 2 ^ a) hx2 hv, Nat.or_comm, Nat.mul_comm v, ← Nat.two_pow_add_eq_or_of_lt hx, Nat.add_comm]
theorem wrapuB (v : Int) (h0 : 0 ≤ v) (h1 : v < 18446744073709551616) : IntKind.u64.wrap v = v := by
  simp [IntKind.wrap, IntKind.signed, IntKind.bits]; omega
theorem pow_le8 {q : Nat} (hq : q < 8) : 2 ^ (8 * q) ≤ 72057594037927936 :=
  Nat.le_trans (Nat.pow_le_pow_right (by omega) (by omega : 8 * q ≤ 56)) (by decide)
theorem or_step (s : ByteArray) (a q : Nat) (hq : q < 8) :
    bits .or .u64 (maskUp s a q : Int) (IntKind.u64.wrap (IntKind.u64.wrap (byt s (a + q) : Int) * 2 ^ (8 * q))) = (maskUp s a (q + 1) : Int) := by
  have h1 := byt_lt s (a + q)
  have h2 := pow_le8 hq
  have h3 := maskUp_lt s a q
  have h4 : byt s (a + q) * 2 ^ (8 * q) ≤ 255 * 72057594037927936 := Nat.mul_le_mul (by omega) h2
  rw [wrapuB (byt s (a + q)) (by omega) (by omega)]
  have e : (byt s (a + q) : Int) * 2 ^ (8 * q) = ((byt s (a + q) * 2 ^ (8 * q) : Nat) : Int) := by push_cast; rfl
  rw [e, wrapuB _ (by omega) (by omega), or_addB h3 (by omega) (by omega)]
  rfl
theorem tysAt_len (s : ByteArray) (n : Nat) : (tysAt s n).length = n := by simp [tysAt]
theorem tysAt_succ (s : ByteArray) (n : Nat) : tysAt s (n + 1) = tysAt s n ++ [tyAt s n] := by simp [tysAt, List.range_succ]
theorem tysAt_drop (s : ByteArray) (n k : Nat) (h : k < n) : (tysAt s n).drop k = tyAt s k :: (tysAt s n).drop (k + 1) := by
  rw [List.drop_eq_getElem_cons (by rw [tysAt_len]; exact h)]
  simp [tysAt]
theorem tyAt_ok (s : ByteArray) (i : Nat) : OkW (tyAt s i) := by
  have h1 := byt_lt s (1 + 10 * i)
  have h2 := byt_lt s (1 + 10 * i + 1)
  have h3 := maskUp_lt s (1 + 10 * i + 2) 8
  exact ⟨by simp [tyAt], by simp only [tyAt]; omega, by simp only [tyAt]; omega, by simp only [tyAt]; omega, h3⟩
def rdOk (s : ByteArray) : Bool := s.size == 1 + 10 * byt s 0 && newE [] (tysAt s (byt s 0)) == 0

/-- What Read gives. -/
def GivesRead (s : ByteArray) (w : World) (e : Ending) (w' : World) : Prop :=
  (rdOk s = false ∧ e = .returned (.tuple #[.pointer none, .int .i64 7]) ∧ Below w.heap.size w w') ∨
  (rdOk s = true ∧ ∃ tb g v, e = .returned (.tuple #[.pointer (some ⟨tb, 0, none⟩), .int .i64 0]) ∧ IsTb w' w.heap.size tb g v (tysAt s (byt s 0)) ∧ w.heap.size ≤ g ∧ Below w.heap.size w w')

set_option maxRecDepth 100000 in
set_option maxHeartbeats 2000000 in
theorem read_any (w : World) (s : ByteArray) (hs : s.size ≤ 100000) : Calls Try.prog 49 #[.string s] w (GivesRead s w) := by
  by_cases h0 : s.size = 0
  · have hse : s = ByteArray.empty := by simpa using h0
    have hl : s.toList = [] := by rw [hse, ByteArray.toList_eq]; rfl
    have hl2 : s.toList.isEmpty = true := by rw [hl]; rfl
    have HZ := Lib.hid (show rdOk s = false by simp [rdOk, h0]; omega)
    clear hse h0
    go_enter Try.func49, Try.ntmps49
    go_wp2_with fail
    go_ret2
    exact .inl ⟨HZ.out, rfl, Below.refl _ _⟩
  · have hl : s.toList.isEmpty = false := by
      cases hh : s.toList with
      | nil => exact absurd (show s.size = 0 by rw [ByteArray.toList_eq] at hh; have := congrArg List.length hh; simpa using this) h0
      | cons a b => rfl
    have h0' : 0 < s.size := by omega
    have hb := byt_get s 0 h0'
    have hlt := byt_lt s 0
    by_cases h1 : s.size = 1 + 10 * byt s 0
    · have t1 : ((s.size : Int) != 1 + 10 * (byt s 0 : Int)) = false := by
        have : (s.size : Int) = 1 + 10 * (byt s 0 : Int) := by omega
        simp [this]
      obtain ⟨n, hn⟩ : ∃ n, n = byt s 0 := ⟨_, rfl⟩
      rw [← hn] at h1 hb hlt t1
      have HN := Lib.hid hn
      have HSZ := Lib.hid h1
      have H0 := Lib.hid (tb_start w)
      clear h1 hn
      go_enter Try.func49, Try.ntmps49
      go_wp2_with fail
      clear t1 hb hl
      go_loopw [5] (fun i wr => ∃ (k g : Nat) (v : Value), k ≤ n ∧ i = .int .i64 (1 + 10 * (k : Int)) ∧ IsTb wr w.heap.size w.heap.size g v (tysAt s k) ∧ w.heap.size ≤ g ∧ Below w.heap.size w wr ∧ Hid (newE (tysAt s k) ((tysAt s n).drop k) = newE [] (tysAt s n))) (fun i _ => s.size - (intOf i).toNat)
      case atStart => exact ⟨0, w.heap.size, _, by omega, rfl, H0.out, Nat.le_refl _, balloc (Below.refl _ w) _, Lib.hid rfl⟩
      case round =>
        obtain ⟨k, g, v, hk, rfl, hI, hg, hbl, HQ⟩ := hrel
        obtain ⟨wo, rfl⟩ : ∃ wo : World, wo = wr := ⟨_, rfl⟩
        by_cases hlt : k < n
        · have a1 : 1 + 10 * (k : Int) + 10 ≤ (s.size : Int) := by have := HSZ.out; omega
          have a2 : 1 + 10 * k + 10 ≤ s.size := by have := HSZ.out; omega
          have HI := Lib.hid hI
          have HB := Lib.hid hbl
          clear hI hbl
          have i0 : (0 : Int) ≤ 1 + 10 * (k : Int) := by omega
          have i1 : (0 : Int) ≤ 1 + 10 * (k : Int) + 1 := by omega
          have i2 : 1 + 10 * (k : Int) < (s.size : Int) := by omega
          have i3 : 1 + 10 * (k : Int) + 1 < (s.size : Int) := by omega
          have t0 : (1 + 10 * (k : Int)).toNat = 1 + 10 * k := by omega
          have t1 : (1 + 10 * (k : Int) + 1).toNat = 1 + 10 * k + 1 := by omega
          have w1 : IntKind.i64.wrap (1 + 10 * (k : Int) + 1) = 1 + 10 * (k : Int) + 1 := IntWalk.i64_in _ (by omega)
          have g0 := byt_get s (1 + 10 * k) (by omega)
          have g1 := byt_get s (1 + 10 * k + 1) (by omega)
          have l1 := byt_lt s (1 + 10 * k + 1)
          have w2 : IntKind.i64.wrap (byt s (1 + 10 * k + 1) : Int) = (byt s (1 + 10 * k + 1) : Int) := IntWalk.i64_in _ (by omega)
          go_wp2_with fail
          go_region
          clear i0 i1 i2 i3 t0 t1 w1 w2 g0 g1 l1
          go_wp2_with fail
          go_loopw [39] (fun i wr => ∃ q : Nat, q ≤ 8 ∧ i = .int .i64 (q : Int) ∧ Blk wr wo.heap.size 24 #[.int .u8 (byt s (1 + 10 * k) : Int), .int .i64 (byt s (1 + 10 * k + 1) : Int), .int .u64 (maskUp s (1 + 10 * k + 2) q : Int)] ∧ Below wo.heap.size wo wr) (fun i _ => 8 - (intOf i).toNat)
          case atStart =>
            refine ⟨0, by omega, rfl, ?_, ?_⟩
            · exact (Blk.new wo _ _).drew
            · exact (balloc (Below.refl _ wo) _).drew
          case round =>
            obtain ⟨q, hq, rfl, hX, hb⟩ := hrel
            by_cases hlt8 : q < 8
            · obtain ⟨c0, c1, c2⟩ := hX.c3
              have f2 := hX.frozen 2
              have HX := Lib.hid hX
              have HB2 := Lib.hid hb
              have i0 : (0 : Int) ≤ 1 + 10 * (k : Int) + 2 + (q : Int) := by omega
              have i2 : 1 + 10 * (k : Int) + 2 + (q : Int) < (s.size : Int) := by omega
              have t0 : (1 + 10 * (k : Int) + 2 + (q : Int)).toNat = 1 + 10 * k + 2 + q := by omega
              have w1 : IntKind.i64.wrap (1 + 10 * (k : Int) + 2) = 1 + 10 * (k : Int) + 2 := IntWalk.i64_in _ (by omega)
              have w2 : IntKind.i64.wrap (1 + 10 * (k : Int) + 2 + (q : Int)) = 1 + 10 * (k : Int) + 2 + (q : Int) := IntWalk.i64_in _ (by omega)
              have w3 : IntKind.i64.wrap (8 * (q : Int)) = 8 * (q : Int) := IntWalk.i64_in _ (by omega)
              have g0 := byt_get s (1 + 10 * k + 2 + q) (by omega)
              clear hX hb
              go_wp2_with fail
              go_region
              clear i0 i2 t0 w1 w2 w3 g0
              go_wp2_with fail
              go_roundw
              case rel =>
                refine ⟨q + 1, by omega, by go_num, ?_, ?_⟩
                · rw [or_step s _ q hlt8]
                  have := HX.out.set_ 2 (.int .u64 (maskUp s (1 + 10 * k + 2) (q + 1) : Int))
                  exact this.drew
                · exact (HB2.out.setCell (p := ⟨wo.heap.size, 2, none⟩) (Nat.le_refl _) _).drew
              case measure => simp [intOf]; omega
            · obtain rfl : q = 8 := by omega
              have HBX := Lib.hid hb
              have HIX := Lib.hid (HI.out.nx hb)
              have hw := tyAt_ok s k
              have HT := Lib.hid (tysAt_succ s k)
              have HD := Lib.hid (tysAt_drop s n k hlt)
              have HE0 := Lib.hid (show tyAt s k = ((byt s (1 + 10 * k) : Int), (byt s (1 + 10 * k + 1) : Int), maskUp s (1 + 10 * k + 2) 8) from rfl)
              rw [HE0.out] at hw HT HD
              generalize (byt s (1 + 10 * k) : Int) = t1 at *
              generalize (byt s (1 + 10 * k + 1) : Int) = t2 at *
              generalize maskUp s (1 + 10 * k + 2) 8 = t3 at *
              obtain ⟨c0, c1, c2⟩ := hX.c3
              have HA := Lib.hid (add_any wr w.heap.size w.heap.size g v (tysAt s k) HIX.out (by have := HBX.out.size; have := HB.out.size; omega) t1 t2 t3 ⟨hw.k0, hw.k1⟩ ⟨hw.w0, hw.w1⟩ hw.m1)
              have HBW := Lib.hid (bnext HB.out hb)
              have hsz := HBW.out.size
              clear hX hb hw HE0
              by_cases hE : addE (tysAt s k) (t1, t2, t3) = 0
              · have HE := Lib.hid hE
                clear hE
                go_wp2_with fail
                refine HA.out.mono ?_
                rintro e w2 ⟨rfl, g', v', hI', hg', hT⟩
                rw [HE.out]
                have HI' := Lib.hid hI'
                have HT' := Lib.hid hT
                clear hI' hT
                go_wp2_with fail
                go_roundw
                case rel =>
                  refine ⟨k + 1, g', v', by omega, by go_num, ?_, by omega, Below.touch HBW.out (Nat.le_refl _) hg (Nat.le_refl _) HT'.out, Lib.hid ?_⟩
                  · have := HI'.out
                    rw [addL, if_pos HE.out, ← HT.out] at this
                    exact this
                  · have := HQ.out
                    rw [HD.out, newE, if_pos HE.out, ← HT.out] at this
                    exact this
                case measure => simp [intOf]; omega
              · have hne : (addE (tysAt s k) (t1, t2, t3) != 0) = true := by simpa using hE
                have HE := Lib.hid hE
                clear hE
                generalize hX : addE (tysAt s k) (t1, t2, t3) = X at *
                have HX := Lib.hid hX
                clear hX
                go_wp2_with fail
                refine HA.out.mono ?_
                rintro e w2 ⟨rfl, g', v', hI', hg', hT⟩
                rw [HX.out]
                have HT' := Lib.hid hT
                clear hI' hT hg'
                go_wp2_with fail
                go_ret2
                have hq := HQ.out
                rw [HD.out, newE, HX.out, if_neg HE.out] at hq
                refine .inl ⟨?_, rfl, Below.touch HBW.out (Nat.le_refl _) hg (Nat.le_refl _) HT'.out⟩
                have hz : newE [] (tysAt s n) ≠ 0 := by rw [← hq]; exact HE.out
                simp [rdOk, ← HN.out, hz]
        · have a1 : (s.size : Int) ≤ 1 + 10 * (k : Int) := by have := HSZ.out; omega
          obtain rfl : k = n := by omega
          have HI := Lib.hid hI
          have HB := Lib.hid hbl
          clear hI hbl
          go_wp2_with fail
          go_ret2
          have hq := HQ.out
          rw [List.drop_of_length_le (by rw [tysAt_len]; exact Nat.le_refl _), newE] at hq
          refine .inr ⟨?_, w.heap.size, g, v, rfl, ?_, hg, HB.out⟩
          · simp [rdOk, ← HN.out, ← hq]
            exact HSZ.out
          · rw [← HN.out]; exact HI.out
    · have t1 : ((s.size : Int) != 1 + 10 * (byt s 0 : Int)) = true := by simp; omega
      have HZ := Lib.hid (show rdOk s = false by simp [rdOk, h1])
      clear h1
      go_enter Try.func49, Try.ntmps49
      go_wp2_with fail
      go_ret2
      exact .inl ⟨HZ.out, rfl, Below.refl _ _⟩
end Go.Proofs.Ytehicgndccnopaa
