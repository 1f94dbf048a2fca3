/- kind.of, Slots, Size, ref, Ref. -/
import Derived.Test.YtmjkohjijoddaaaDoorKindB
import Derived.Laws.Bits64b
namespace Go.Proofs.YtmjkohjijoddaaaDoor
open Go.RowKit
set_option linter.unusedVariables false
set_option linter.unusedSimpArgs false

/-- The error of a type and a length. -/
def ofE (k wd : Int) (mk : Nat) (n : Int) : Int := if okT k wd mk = false ∨ n < 0 ∨ (k = 1 ∧ n ≠ 0) then 2 else if 4096 < n then 5 else 0

theorem okT_facts {k wd : Int} {mk : Nat} (h : okT k wd mk = true) : (k = 1 ∨ k = 2 ∨ k = 3 ∨ k = 4) ∧ (0 ≤ wd ∧ wd ≤ 64) ∧ (k = 3 → 1 ≤ wd ∧ wd ≤ 16) ∧ (k = 2 ∨ k = 4 → wd = 0) := by
  simp [okT] at h; omega
theorem ofE_facts {k wd : Int} {mk : Nat} {n : Int} (h : ofE k wd mk n = 0) : okT k wd mk = true ∧ (0 ≤ n ∧ n ≤ 4096) ∧ (k = 1 → n = 0) := by
  unfold ofE at h
  split at h
  · omega
  · split at h
    · omega
    · rename_i h1 h2
      refine ⟨by simpa using (not_or.1 h1).1, ?_, ?_⟩ <;> omega
theorem chk_yes {k wd : Int} {mk : Nat} (h : okT k wd mk = true) : chk k wd mk = 0 := by simp [chk, h]
theorem chk_no {k wd : Int} {mk : Nat} (h : okT k wd mk = false) : chk k wd mk = 2 := by simp [chk, h]

set_option maxHeartbeats 1000000 in
theorem of1 (k wd : Int) (mk : Nat) (n : Int) (w : World) (hk : 0 ≤ k ∧ k < 256) (hw : -9223372036854775808 ≤ wd ∧ wd ≤ 9223372036854775807) (hm : mk < 18446744073709551616) (h : okT k wd mk = false) :
    Calls Tryd.prog 77 #[.agg #[.int .u8 k, .int .i64 wd, .int .u64 (mk : Int)], .int .i64 n] w fun e w' => e = .returned (.tuple #[.agg #[.int .u8 0, .int .i64 0, .int .u64 0, .int .i64 0], .int .i64 2]) ∧ Below w.heap.size w w' := by
  have HK := Lib.hid hk
  have HW := Lib.hid hw
  have HC := Lib.hid (chk_no h)
  clear h
  clear hk hw
  go_enter Tryd.func77, Tryd.ntmps77
  go_wp2_with fail
  refine (check_any k wd mk _ HK.out HW.out hm).mono ?_
  rintro e w1 ⟨rfl, hb⟩
  rw [HC.out]
  have b1 := ((Blk.new w 72 #[.int .u8 k, .int .i64 wd, .int .u64 (mk : Int)]).alloc (.cells #[.int .u8 0, .int .i64 0, .int .u64 0, .int .i64 0] 118)).nx hb
  have b2 := (Blk.new_at (w.alloc (.cells #[.int .u8 k, .int .i64 wd, .int .u64 (mk : Int)] 72)) (w.heap.size + 1) 118 #[.int .u8 0, .int .i64 0, .int .u64 0, .int .i64 0] (by simp)).nx hb
  have hB := bnext (balloc (balloc (Below.refl _ w) _) _) hb
  clear hb
  obtain ⟨c0, c1, c2⟩ := b1.c3
  obtain ⟨d0, d1, d2, d3⟩ := b2.c4
  have g0 := b2.frozen 0
  have g1 := b2.frozen 1
  have g2 := b2.frozen 2
  have g3 := b2.frozen 3
  clear b1 b2
  go_wp2_with fail
  refine bodyPost_ret (v := .tuple #[.agg #[.int .u8 0, .int .i64 0, .int .u64 0, .int .i64 0], .int .i64 2]) (by simp [results, Tryd.results77, go_sem, d0, d1, d2, d3]) rfl ⟨rfl, ?_⟩
  exact (((hB.setCell (by simp) _).setCell (by simp) _).setCell (by simp) _).setCell (by simp) _

set_option maxHeartbeats 1000000 in
theorem of2 (k wd : Int) (mk : Nat) (n : Int) (w : World) (hk : 0 ≤ k ∧ k < 256) (hw : -9223372036854775808 ≤ wd ∧ wd ≤ 9223372036854775807) (hm : mk < 18446744073709551616) (h : okT k wd mk = true) (hn : n < 0) :
    Calls Tryd.prog 77 #[.agg #[.int .u8 k, .int .i64 wd, .int .u64 (mk : Int)], .int .i64 n] w fun e w' => e = .returned (.tuple #[.agg #[.int .u8 0, .int .i64 0, .int .u64 0, .int .i64 0], .int .i64 2]) ∧ Below w.heap.size w w' := by
  have HK := Lib.hid hk
  have HW := Lib.hid hw
  have HC := Lib.hid (chk_yes h)
  clear h
  have t1 : decide (n < 0) = true := by simpa using hn
  clear hk hw
  go_enter Tryd.func77, Tryd.ntmps77
  go_wp2_with fail
  refine (check_any k wd mk _ HK.out HW.out hm).mono ?_
  rintro e w1 ⟨rfl, hb⟩
  rw [HC.out]
  have b1 := ((Blk.new w 72 #[.int .u8 k, .int .i64 wd, .int .u64 (mk : Int)]).alloc (.cells #[.int .u8 0, .int .i64 0, .int .u64 0, .int .i64 0] 118)).nx hb
  have b2 := (Blk.new_at (w.alloc (.cells #[.int .u8 k, .int .i64 wd, .int .u64 (mk : Int)] 72)) (w.heap.size + 1) 118 #[.int .u8 0, .int .i64 0, .int .u64 0, .int .i64 0] (by simp)).nx hb
  have hB := bnext (balloc (balloc (Below.refl _ w) _) _) hb
  clear hb
  obtain ⟨c0, c1, c2⟩ := b1.c3
  obtain ⟨d0, d1, d2, d3⟩ := b2.c4
  have g0 := b2.frozen 0
  have g1 := b2.frozen 1
  have g2 := b2.frozen 2
  have g3 := b2.frozen 3
  clear b1 b2
  go_wp2_with fail
  refine bodyPost_ret (v := .tuple #[.agg #[.int .u8 0, .int .i64 0, .int .u64 0, .int .i64 0], .int .i64 2]) (by simp [results, Tryd.results77, go_sem, d0, d1, d2, d3]) rfl ⟨rfl, ?_⟩
  exact (((hB.setCell (by simp) _).setCell (by simp) _).setCell (by simp) _).setCell (by simp) _

set_option maxHeartbeats 1000000 in
theorem of3 (wd : Int) (mk : Nat) (n : Int) (w : World) (hk : (0 : Int) ≤ 1 ∧ (1 : Int) < 256) (hw : -9223372036854775808 ≤ wd ∧ wd ≤ 9223372036854775807) (hm : mk < 18446744073709551616) (h : okT 1 wd mk = true) (hn : 0 ≤ n) (h2 : n ≠ 0) :
    Calls Tryd.prog 77 #[.agg #[.int .u8 1, .int .i64 wd, .int .u64 (mk : Int)], .int .i64 n] w fun e w' => e = .returned (.tuple #[.agg #[.int .u8 0, .int .i64 0, .int .u64 0, .int .i64 0], .int .i64 2]) ∧ Below w.heap.size w w' := by
  have HK := Lib.hid hk
  have HW := Lib.hid hw
  have HC := Lib.hid (chk_yes h)
  clear h
  have t1 : decide (n < 0) = false := by simpa using hn
  have t2 : (n != 0) = true := by simpa using h2
  clear hk hw
  go_enter Tryd.func77, Tryd.ntmps77
  go_wp2_with fail
  refine (check_any 1 wd mk _ HK.out HW.out hm).mono ?_
  rintro e w1 ⟨rfl, hb⟩
  rw [HC.out]
  have b1 := ((Blk.new w 72 #[.int .u8 1, .int .i64 wd, .int .u64 (mk : Int)]).alloc (.cells #[.int .u8 0, .int .i64 0, .int .u64 0, .int .i64 0] 118)).nx hb
  have b2 := (Blk.new_at (w.alloc (.cells #[.int .u8 1, .int .i64 wd, .int .u64 (mk : Int)] 72)) (w.heap.size + 1) 118 #[.int .u8 0, .int .i64 0, .int .u64 0, .int .i64 0] (by simp)).nx hb
  have hB := bnext (balloc (balloc (Below.refl _ w) _) _) hb
  clear hb
  obtain ⟨c0, c1, c2⟩ := b1.c3
  obtain ⟨d0, d1, d2, d3⟩ := b2.c4
  have g0 := b2.frozen 0
  have g1 := b2.frozen 1
  have g2 := b2.frozen 2
  have g3 := b2.frozen 3
  clear b1 b2
  go_wp2_with fail
  refine bodyPost_ret (v := .tuple #[.agg #[.int .u8 0, .int .i64 0, .int .u64 0, .int .i64 0], .int .i64 2]) (by simp [results, Tryd.results77, go_sem, d0, d1, d2, d3]) rfl ⟨rfl, ?_⟩
  exact (((hB.setCell (by simp) _).setCell (by simp) _).setCell (by simp) _).setCell (by simp) _

set_option maxHeartbeats 1000000 in
theorem of4 (k wd : Int) (mk : Nat) (n : Int) (w : World) (hk : 0 ≤ k ∧ k < 256) (hw : -9223372036854775808 ≤ wd ∧ wd ≤ 9223372036854775807) (hm : mk < 18446744073709551616) (h : okT k wd mk = true) (h1 : k ≠ 1) (hn : 4096 < n) :
    Calls Tryd.prog 77 #[.agg #[.int .u8 k, .int .i64 wd, .int .u64 (mk : Int)], .int .i64 n] w fun e w' => e = .returned (.tuple #[.agg #[.int .u8 0, .int .i64 0, .int .u64 0, .int .i64 0], .int .i64 5]) ∧ Below w.heap.size w w' := by
  have HK := Lib.hid hk
  have HW := Lib.hid hw
  have HC := Lib.hid (chk_yes h)
  clear h
  have t1 : decide (n < 0) = false := by simp; omega
  have t2 : (k == 1) = false := by simpa using h1
  have t3 : decide (4096 < n) = true := by simpa using hn
  clear h1
  clear hk hw
  go_enter Tryd.func77, Tryd.ntmps77
  go_wp2_with fail
  refine (check_any k wd mk _ HK.out HW.out hm).mono ?_
  rintro e w1 ⟨rfl, hb⟩
  rw [HC.out]
  have b1 := ((Blk.new w 72 #[.int .u8 k, .int .i64 wd, .int .u64 (mk : Int)]).alloc (.cells #[.int .u8 0, .int .i64 0, .int .u64 0, .int .i64 0] 118)).nx hb
  have b2 := (Blk.new_at (w.alloc (.cells #[.int .u8 k, .int .i64 wd, .int .u64 (mk : Int)] 72)) (w.heap.size + 1) 118 #[.int .u8 0, .int .i64 0, .int .u64 0, .int .i64 0] (by simp)).nx hb
  have hB := bnext (balloc (balloc (Below.refl _ w) _) _) hb
  clear hb
  obtain ⟨c0, c1, c2⟩ := b1.c3
  obtain ⟨d0, d1, d2, d3⟩ := b2.c4
  have g0 := b2.frozen 0
  have g1 := b2.frozen 1
  have g2 := b2.frozen 2
  have g3 := b2.frozen 3
  clear b1 b2
  go_wp2_with fail
  refine bodyPost_ret (v := .tuple #[.agg #[.int .u8 0, .int .i64 0, .int .u64 0, .int .i64 0], .int .i64 5]) (by simp [results, Tryd.results77, go_sem, d0, d1, d2, d3]) rfl ⟨rfl, ?_⟩
  exact (((hB.setCell (by simp) _).setCell (by simp) _).setCell (by simp) _).setCell (by simp) _

set_option maxHeartbeats 1000000 in
theorem of5 (k wd : Int) (mk : Nat) (n : Int) (w : World) (hk : 0 ≤ k ∧ k < 256) (hw : -9223372036854775808 ≤ wd ∧ wd ≤ 9223372036854775807) (hm : mk < 18446744073709551616) (h : okT k wd mk = true) (h1 : k ≠ 1) (hn : 0 ≤ n) (hn2 : n ≤ 4096) :
    Calls Tryd.prog 77 #[.agg #[.int .u8 k, .int .i64 wd, .int .u64 (mk : Int)], .int .i64 n] w fun e w' => e = .returned (.tuple #[.agg #[.int .u8 k, .int .i64 wd, .int .u64 (mk : Int), .int .i64 n], .int .i64 0]) ∧ Below w.heap.size w w' := by
  have HK := Lib.hid hk
  have HW := Lib.hid hw
  have HC := Lib.hid (chk_yes h)
  clear h
  have t1 : decide (n < 0) = false := by simpa using hn
  have t2 : (k == 1) = false := by simpa using h1
  have t3 : decide (4096 < n) = false := by simpa using hn2
  clear h1
  clear hk hw
  go_enter Tryd.func77, Tryd.ntmps77
  go_wp2_with fail
  refine (check_any k wd mk _ HK.out HW.out hm).mono ?_
  rintro e w1 ⟨rfl, hb⟩
  rw [HC.out]
  have b1 := ((Blk.new w 72 #[.int .u8 k, .int .i64 wd, .int .u64 (mk : Int)]).alloc (.cells #[.int .u8 0, .int .i64 0, .int .u64 0, .int .i64 0] 118)).nx hb
  have b2 := (Blk.new_at (w.alloc (.cells #[.int .u8 k, .int .i64 wd, .int .u64 (mk : Int)] 72)) (w.heap.size + 1) 118 #[.int .u8 0, .int .i64 0, .int .u64 0, .int .i64 0] (by simp)).nx hb
  have hB := bnext (balloc (balloc (Below.refl _ w) _) _) hb
  clear hb
  obtain ⟨c0, c1, c2⟩ := b1.c3
  obtain ⟨d0, d1, d2, d3⟩ := b2.c4
  have g0 := b2.frozen 0
  have g1 := b2.frozen 1
  have g2 := b2.frozen 2
  have g3 := b2.frozen 3
  clear b1 b2
  go_wp2_with fail
  refine bodyPost_ret (v := .tuple #[.agg #[.int .u8 k, .int .i64 wd, .int .u64 (mk : Int), .int .i64 n], .int .i64 0]) (by simp [results, Tryd.results77, go_sem, d0, d1, d2, d3]) rfl ⟨rfl, ?_⟩
  exact (((hB.setCell (by simp) _).setCell (by simp) _).setCell (by simp) _).setCell (by simp) _

set_option maxHeartbeats 1000000 in
theorem of6 (wd : Int) (mk : Nat) (w : World) (hk : (0 : Int) ≤ 1 ∧ (1 : Int) < 256) (hw : -9223372036854775808 ≤ wd ∧ wd ≤ 9223372036854775807) (hm : mk < 18446744073709551616) (h : okT 1 wd mk = true) :
    Calls Tryd.prog 77 #[.agg #[.int .u8 1, .int .i64 wd, .int .u64 (mk : Int)], .int .i64 0] w fun e w' => e = .returned (.tuple #[.agg #[.int .u8 1, .int .i64 wd, .int .u64 (mk : Int), .int .i64 0], .int .i64 0]) ∧ Below w.heap.size w w' := by
  have HK := Lib.hid hk
  have HW := Lib.hid hw
  have HC := Lib.hid (chk_yes h)
  clear h
  clear hk hw
  go_enter Tryd.func77, Tryd.ntmps77
  go_wp2_with fail
  refine (check_any 1 wd mk _ HK.out HW.out hm).mono ?_
  rintro e w1 ⟨rfl, hb⟩
  rw [HC.out]
  have b1 := ((Blk.new w 72 #[.int .u8 1, .int .i64 wd, .int .u64 (mk : Int)]).alloc (.cells #[.int .u8 0, .int .i64 0, .int .u64 0, .int .i64 0] 118)).nx hb
  have b2 := (Blk.new_at (w.alloc (.cells #[.int .u8 1, .int .i64 wd, .int .u64 (mk : Int)] 72)) (w.heap.size + 1) 118 #[.int .u8 0, .int .i64 0, .int .u64 0, .int .i64 0] (by simp)).nx hb
  have hB := bnext (balloc (balloc (Below.refl _ w) _) _) hb
  clear hb
  obtain ⟨c0, c1, c2⟩ := b1.c3
  obtain ⟨d0, d1, d2, d3⟩ := b2.c4
  have g0 := b2.frozen 0
  have g1 := b2.frozen 1
  have g2 := b2.frozen 2
  have g3 := b2.frozen 3
  clear b1 b2
  go_wp2_with fail
  refine bodyPost_ret (v := .tuple #[.agg #[.int .u8 1, .int .i64 wd, .int .u64 (mk : Int), .int .i64 0], .int .i64 0]) (by simp [results, Tryd.results77, go_sem, d0, d1, d2, d3]) rfl ⟨rfl, ?_⟩
  exact (((hB.setCell (by simp) _).setCell (by simp) _).setCell (by simp) _).setCell (by simp) _

theorem of_ok (k wd : Int) (mk : Nat) (n : Int) (w : World) (hk : 0 ≤ k ∧ k < 256) (hw : -9223372036854775808 ≤ wd ∧ wd ≤ 9223372036854775807) (hm : mk < 18446744073709551616) (h : ofE k wd mk n = 0) :
    Calls Tryd.prog 77 #[.agg #[.int .u8 k, .int .i64 wd, .int .u64 (mk : Int)], .int .i64 n] w fun e w' => e = .returned (.tuple #[.agg #[.int .u8 k, .int .i64 wd, .int .u64 (mk : Int), .int .i64 n], .int .i64 0]) ∧ Below w.heap.size w w' := by
  obtain ⟨h1, h2, h3⟩ := ofE_facts h
  by_cases h4 : k = 1
  · obtain rfl := h3 h4
    subst h4
    exact of6 wd mk w hk hw hm h1
  · exact of5 k wd mk n w hk hw hm h1 h4 h2.1 h2.2
theorem of_no (k wd : Int) (mk : Nat) (n : Int) (w : World) (hk : 0 ≤ k ∧ k < 256) (hw : -9223372036854775808 ≤ wd ∧ wd ≤ 9223372036854775807) (hm : mk < 18446744073709551616) (h : ofE k wd mk n ≠ 0) :
    Calls Tryd.prog 77 #[.agg #[.int .u8 k, .int .i64 wd, .int .u64 (mk : Int)], .int .i64 n] w fun e w' => e = .returned (.tuple #[.agg #[.int .u8 0, .int .i64 0, .int .u64 0, .int .i64 0], .int .i64 (ofE k wd mk n)]) ∧ Below w.heap.size w w' := by
  cases h1 : okT k wd mk
  · rw [show ofE k wd mk n = 2 by simp [ofE, h1]]
    exact of1 k wd mk n w hk hw hm h1
  · by_cases h2 : n < 0
    · rw [show ofE k wd mk n = 2 by simp [ofE, h2]]
      exact of2 k wd mk n w hk hw hm h1 h2
    · by_cases h3 : k = 1
      · by_cases h4 : n = 0
        · exact absurd (by subst h3 h4; simp [ofE, h1]) h
        · rw [show ofE k wd mk n = 2 by simp [ofE, h3, h4]]
          subst h3
          exact of3 wd mk n w hk hw hm h1 (by omega) h4
      · by_cases h4 : 4096 < n
        · rw [show ofE k wd mk n = 5 by simp [ofE, h1, h2, h3, h4]]
          exact of4 k wd mk n w hk hw hm h1 h3 h4
        · exact absurd (by simp [ofE, h1, h2, h3, h4]) h
end Go.Proofs.YtmjkohjijoddaaaDoor
