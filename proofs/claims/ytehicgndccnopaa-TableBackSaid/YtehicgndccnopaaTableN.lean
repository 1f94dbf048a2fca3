/- Layer 6, plain: the bytes of a table lead back to it, and the table of bytes to them. -/
import Derived.Test.YtehicgndccnopaaTableM
namespace Go.Proofs.Ytehicgndccnopaa
set_option linter.unusedVariables false
set_option linter.unusedSimpArgs false

theorem byt_str (L : List Int) (j : Nat) (z : Int) (h : L[j]? = some z) (h0 : 0 ≤ z) (h1 : z < 256) : byt (strOfNums L) j = z.toNat := by
  unfold byt
  rw [strOfNums_data]
  simp only [List.getD, List.getElem?_map, h, Option.map_some, Option.getD_some]
  rw [UInt8.toNat_ofNat']
  omega

theorem tyB_at (ts : List Ty) (r : Nat) (hr : r < 10) : ∀ i, i < ts.length → (ts.flatMap tyB)[i * 10 + r]? = (tyB (ts.getD i (0, 0, 0)))[r]? := by
  induction ts with
  | nil => intro i hi; simp at hi
  | cons t ts ih =>
    intro i hi
    have hl : (tyB t).length = 10 := by simp [tyB, maskB_len]
    rw [List.flatMap_cons]
    cases i with
    | zero =>
      rw [List.getElem?_append_left (by omega)]
      simp [List.getD]
    | succ i =>
      have := ih i (by simpa using hi)
      rw [List.getElem?_append_right (by omega), hl, show (i + 1) * 10 + r - 10 = i * 10 + r by omega, this]
      simp [List.getD]

theorem putB_at (ts : List Ty) (i r : Nat) (hi : i < ts.length) (hr : r < 10) : (putB ts)[1 + 10 * i + r]? = (tyB (ts.getD i (0, 0, 0)))[r]? := by
  rw [← tyB_at ts r hr i hi, putB, show 1 + 10 * i + r = (i * 10 + r) + 1 by omega, List.getElem?_cons_succ]
theorem putB_len (ts : List Ty) : (putB ts).length = 1 + 10 * ts.length := by rw [putB, List.length_cons, tysB_len]; omega
theorem cast_byte (m k : Nat) : (m : Int) / 2 ^ k % 256 = ((m / 2 ^ k % 256 : Nat) : Int) := by rw [Int.natCast_emod, Int.natCast_ediv, Int.natCast_pow]; rfl

theorem maskUp_of (s : ByteArray) (a m : Nat) (h : ∀ j, j < 8 → byt s (a + j) = m / 2 ^ (8 * j) % 256) : ∀ q, q ≤ 8 → maskUp s a q = m % 2 ^ (8 * q)
  | 0, _ => by simp [maskUp, Nat.mod_one]
  | q + 1, hq => by
    rw [maskUp, maskUp_of s a m h q (by omega), h q (by omega), Nat.mul_add, Nat.pow_add, show 2 ^ (8 * 1) = 256 by decide, Nat.mod_mul]
    rw [Nat.mul_comm (m / 2 ^ (8 * q) % 256)]

/-- The mask gives its bytes back. -/
theorem maskUp_byte (s : ByteArray) (a q : Nat) : ∀ r, q < r → maskUp s a r / 2 ^ (8 * q) % 256 = byt s (a + q)
  | 0, h => by omega
  | r + 1, h => by
    rw [maskUp]
    have hx := maskUp_lt s a r
    have hb := byt_lt s (a + q)
    have hp : 0 < 2 ^ (8 * q) := Nat.pow_pos (by omega)
    rcases Nat.lt_or_ge q r with h1 | h1
    · obtain ⟨d, rfl⟩ : ∃ d, r = q + 1 + d := ⟨r - (q + 1), by omega⟩
      have e : byt s (a + (q + 1 + d)) * 2 ^ (8 * (q + 1 + d)) = byt s (a + (q + 1 + d)) * 2 ^ (8 * d) * 256 * 2 ^ (8 * q) := by
        rw [show 8 * (q + 1 + d) = 8 * d + 8 + 8 * q by omega, Nat.pow_add, Nat.pow_add, show 2 ^ 8 = 256 by decide]
        simp only [Nat.mul_assoc]
      rw [e, Nat.add_mul_div_right _ _ hp, Nat.add_mul_mod_self_right]
      exact maskUp_byte s a q (q + 1 + d) h1
    · obtain rfl : r = q := by omega
      rw [Nat.add_mul_div_right _ _ hp, Nat.div_eq_of_lt hx, Nat.zero_add]
      omega

theorem range_ten {α : Type} (f : Nat → α) : ∀ n, (List.range (1 + 10 * n)).map f = f 0 :: (List.range n).flatMap fun i => (List.range 10).map fun r => f (1 + 10 * i + r)
  | 0 => by simp [List.range_succ]
  | n + 1 => by
    rw [show 1 + 10 * (n + 1) = (1 + 10 * n) + 10 by omega, List.range_add, List.map_append, range_ten f n, List.range_succ (n := n), List.flatMap_append]
    simp [List.map_map, Function.comp_def]

theorem tyB_tyAt (s : ByteArray) (i : Nat) : tyB (tyAt s i) = (List.range 10).map fun r => (byt s (1 + 10 * i + r) : Int) := by
  have hm := fun q (hq : q < 8) => maskUp_byte s (1 + 10 * i + 2) q 8 hq
  have hw := byt_lt s (1 + 10 * i + 1)
  have hc : ∀ q, q < 8 → (maskUp s (1 + 10 * i + 2) 8 : Int) / 2 ^ (8 * q) % 256 = (byt s (1 + 10 * i + 2 + q) : Int) := fun q hq => by
    rw [← hm q hq, cast_byte]
  have h0 := hc 0 (by omega)
  have h1 := hc 1 (by omega)
  have h2 := hc 2 (by omega)
  have h3 := hc 3 (by omega)
  have h4 := hc 4 (by omega)
  have h5 := hc 5 (by omega)
  have h6 := hc 6 (by omega)
  have h7 := hc 7 (by omega)
  have hw' : (byt s (1 + 10 * i + 1) : Int) % 256 = (byt s (1 + 10 * i + 1) : Int) := by omega
  show (byt s (1 + 10 * i) : Int) :: (byt s (1 + 10 * i + 1) : Int) % 256 :: [(maskUp s (1 + 10 * i + 2) 8 : Int) / 2 ^ (8 * 0) % 256, (maskUp s (1 + 10 * i + 2) 8 : Int) / 2 ^ (8 * 1) % 256, (maskUp s (1 + 10 * i + 2) 8 : Int) / 2 ^ (8 * 2) % 256, (maskUp s (1 + 10 * i + 2) 8 : Int) / 2 ^ (8 * 3) % 256, (maskUp s (1 + 10 * i + 2) 8 : Int) / 2 ^ (8 * 4) % 256, (maskUp s (1 + 10 * i + 2) 8 : Int) / 2 ^ (8 * 5) % 256, (maskUp s (1 + 10 * i + 2) 8 : Int) / 2 ^ (8 * 6) % 256, (maskUp s (1 + 10 * i + 2) 8 : Int) / 2 ^ (8 * 7) % 256] = _
  rw [h0, h1, h2, h3, h4, h5, h6, h7, hw']
  rfl

/-- What is read of bytes has these bytes. -/
theorem put_read (s : ByteArray) (h : rdOk s = true) : strOfNums (putB (tysAt s (byt s 0))) = s := by
  simp only [rdOk, Bool.and_eq_true, beq_iff_eq] at h
  obtain ⟨hs, _⟩ := h
  have hb := byt_lt s 0
  have e : putB (tysAt s (byt s 0)) = (List.range s.size).map fun j => (byt s j : Int) := by
    rw [hs, range_ten, putB, tysAt_len, Int.emod_eq_of_lt (by omega) (by omega)]
    congr 1
    rw [tysAt, List.flatMap_map]
    congr 1
    funext i
    exact tyB_tyAt s i
  rw [e]
  apply ByteArray.ext
  unfold strOfNums
  apply Array.ext'
  apply List.ext_getElem
  · simp
  · intro j h1 h2
    simp at h1 h2
    have h3 : j < s.data.toList.length := by simpa using h2
    simp only [List.getElem_toArray, List.getElem_map, List.getElem_range, Int.toNat_natCast]
    apply UInt8.toNat_inj.1
    rw [UInt8.toNat_ofNat']
    have := byt_lt s j
    rw [Nat.mod_eq_of_lt (by omega)]
    simp only [byt, List.getD, List.getElem?_eq_getElem h3, Option.getD_some]

theorem okT_k {k wd : Int} {mk : Nat} (h : okT k wd mk = true) : (1 ≤ k ∧ k ≤ 4) ∧ 0 ≤ wd ∧ wd ≤ 64 := by
  obtain ⟨h1, h2, _⟩ := okT_facts h
  omega

/-- What was put is read. -/
theorem read_put (ts : List Ty) (hok : ∀ t ∈ ts, OkW t) (h : newE [] ts = 0) : rdOk (strOfNums (putB ts)) = true ∧ byt (strOfNums (putB ts)) 0 = ts.length ∧ tysAt (strOfNums (putB ts)) ts.length = ts := by
  have hl := newE_len h
  have hT := ((newE_zero _ _).1 h).1
  have h0 : byt (strOfNums (putB ts)) 0 = ts.length := by
    rw [byt_str (putB ts) 0 ((ts.length : Int) % 256) (by simp [putB]) (by omega) (by omega)]
    omega
  have hts : tysAt (strOfNums (putB ts)) ts.length = ts := by
    apply List.ext_getElem
    · simp [tysAt_len]
    · intro i h1 h2
      have hg : ts.getD i (0, 0, 0) = ts[i] := by simp [List.getD, h2]
      have ht := hT _ (List.getElem_mem h2)
      have hw := hok _ (List.getElem_mem h2)
      have hat := fun r hr => putB_at ts i r h2 hr
      simp only [hg] at hat
      simp only [tysAt, List.getElem_map, List.getElem_range]
      generalize ts[i] = t at *
      obtain ⟨k, wd, mk⟩ := t
      obtain ⟨hk, hwd⟩ : (1 ≤ k ∧ k ≤ 4) ∧ 0 ≤ wd ∧ wd ≤ 64 := okT_k ht
      have b0 := byt_str _ _ k ((hat 0 (by omega)).trans rfl) (by omega) (by omega)
      have b1 := byt_str _ _ (wd % 256) ((hat 1 (by omega)).trans rfl) (by omega) (by omega)
      have bq : ∀ j, j < 8 → byt (strOfNums (putB ts)) (1 + 10 * i + 2 + j) = mk / 2 ^ (8 * j) % 256 := fun j hj => by
        have hh := hat (2 + j) (by omega)
        have hv : (tyB (k, wd, mk))[2 + j]? = some ((mk : Int) / 2 ^ (8 * j) % 256) := by
          rw [Nat.add_comm 2 j]
          show (maskB mk 8)[j]? = _
          simp [maskB, hj]
        rw [show 1 + 10 * i + 2 + j = 1 + 10 * i + (2 + j) by omega, byt_str _ _ _ (hh.trans hv) (by omega) (by omega)]
        rw [cast_byte, Int.toNat_natCast]
      have hm := maskUp_of _ (1 + 10 * i + 2) mk bq 8 (by omega)
      have hmk : mk < 18446744073709551616 := hw.m1
      simp only [tyAt, hm]
      rw [show 1 + 10 * i + 0 = 1 + 10 * i by omega] at b0
      rw [b0, b1, Nat.mod_eq_of_lt (by simpa using hmk)]
      have e0 : ((k.toNat : Nat) : Int) = k := by omega
      have e1 : (((wd % 256).toNat : Nat) : Int) = wd := by omega
      rw [e0, e1]
  refine ⟨?_, h0, hts⟩
  simp only [rdOk, h0, hts, h, Bool.and_eq_true, beq_iff_eq, and_true]
  rw [strOfNums_size, putB_len]
end Go.Proofs.Ytehicgndccnopaa
