/- kind.Refs. -/
import Derived.Test.YtmjkohjijoddaaaDoorKindD
import Derived.LoopTactic
import Derived.Maps.AppendAt
namespace Go.Proofs.YtmjkohjijoddaaaDoor
open Go.RowKit
set_option linter.unusedVariables false
set_option linter.unusedSimpArgs false

/-- The references among the first c slots. -/
def refsL (k wd : Int) (mk c : Nat) : List Int := ((List.range c).filter fun i : Nat => refV k wd mk (i : Int)).map fun i : Nat => (i : Int)
theorem refsL_zero (k wd : Int) (mk : Nat) : refsL k wd mk 0 = [] := rfl
theorem refsL_yes {k wd : Int} {mk c : Nat} (h : refV k wd mk (c : Int) = true) : refsL k wd mk (c + 1) = refsL k wd mk c ++ [(c : Int)] := by
  simp [refsL, List.range_succ, List.filter_append, h]
theorem refsL_no {k wd : Int} {mk c : Nat} (h : refV k wd mk (c : Int) = false) : refsL k wd mk (c + 1) = refsL k wd mk c := by
  simp [refsL, List.range_succ, List.filter_append, h]
theorem refsL_le (k wd : Int) (mk c : Nat) : (refsL k wd mk c).length ≤ c := by
  unfold refsL
  rw [List.length_map]
  exact Nat.le_trans (List.length_filter_le _ _) (by simp)

theorem own_nx {w w' : World} {base : Nat} {e : TypeId} {size : Nat} {v : Value} {n : Nat} {xs : List Value} (h : w.ownsRow base e size v n xs) (hb : Below w.heap.size w w') : w'.ownsRow base e size v n xs :=
  h.kept (only_of_below hb none) (by cases v.ownBlock <;> simp)

theorem own_form {w : World} {base : Nat} {e : TypeId} {size : Nat} {v : Value} {n : Nat} {xs : List Value} (h : w.ownsRow base e size v n xs) : ∃ A c, v = .slice A n c ∧ n ≤ c := by
  rcases h.2 with ⟨rfl, rfl⟩ | ⟨g, cap, cur, rfl, _, _, h1, _⟩
  · exact ⟨none, 0, rfl, Nat.le_refl _⟩
  · exact ⟨_, cap, rfl, h1⟩

theorem Tryd.infoInt : (Tryd.prog.info? 3).map (fun i => (i.zero, i.size, i.bytes)) = some (some (.int .i64 0), 1, 8) := by kernel_rfl

/-- What Refs gives: a slice that reads as a list. -/
def GivesRow (k : IntKind) (zs : List Int) (err : Int) (w : World) (e : Ending) (w' : World) : Prop :=
  ∃ A n c, e = .returned (.tuple #[.slice A n c, .int .i64 err]) ∧ Reads w' w'.heap.size 1 A n (zs.map (Value.int k)) ∧ n ≤ c ∧ Below w.heap.size w w'

section
variable (k wd : Int) (mk : Nat) (n : Int) (w : World) (hk : 0 ≤ k ∧ k < 256) (hw : -9223372036854775808 ≤ wd ∧ wd ≤ 9223372036854775807) (hm : mk < 18446744073709551616)
include hk hw hm

set_option maxHeartbeats 1000000 in
theorem krefs_ok (h : ofE k wd mk n = 0) : Calls Tryd.prog 72 #[.agg #[.int .u8 k, .int .i64 wd, .int .u64 (mk : Int)], .int .i64 n] w (GivesRow .i64 (refsL k wd mk (slotsV k wd n).toNat) 0 w) := by
  have HK := Lib.hid hk
  have HW := Lib.hid hw
  have HM := Lib.hid hm
  clear hk hw hm
  obtain ⟨h1, h2, h3⟩ := ofE_facts h
  obtain ⟨g1, g2, g3, g4⟩ := okT_facts h1
  obtain ⟨s1, s2⟩ := slotsV_bd h
  have HE := Lib.hid h
  have H2 := Lib.hid h2
  have G1 := Lib.hid g1
  have G2 := Lib.hid g2
  have G3 := Lib.hid g3
  clear h1 h2 h3 g1 g2 g3 g4 h
  obtain ⟨i0, hi, hz0, hz1, hz2⟩ := info_parts Tryd.infoInt
  have HI := Lib.hid hi
  have Z0 := Lib.hid hz0
  have Z1 := Lib.hid hz1
  have Z2 := Lib.hid hz2
  clear hi hz0 hz1 hz2
  go_enter Tryd.func72, Tryd.ntmps72
  go_wp2_with fail
  refine (of_ok k wd mk n _ HK.out HW.out HM.out HE.out).mono ?_
  rintro e w1 ⟨rfl, hb⟩
  have hB := bnext (balloc (Below.refl _ w) _) hb
  clear hb
  have b1 := Blk.new w1 118 #[.int .u8 k, .int .i64 wd, .int .u64 (mk : Int), .int .i64 n]
  go_wp2_with fail
  refine (slots_any k wd mk n G1.out G2.out H2.out _).mono ?_
  rintro e w2 ⟨rfl, hb⟩
  have hB2 := bnext (balloc hB _) hb
  have b2 := b1.nx hb
  have hz := b2.lt
  have hz0 := hB.size
  clear hb b1 hB
  obtain ⟨N, hN⟩ := Int.eq_ofNat_of_zero_le s1
  rw [hN] at s2 ⊢
  have HN := Lib.hid hN
  clear hN s1
  go_wp2_with fail
  go_loopw [4, 19] (fun out i wr => ∃ c : Nat, c ≤ N ∧ i = .int .i64 (c : Int) ∧ wr.ownsRow (w1.heap.size + 1) 3 1 out (refsL k wd mk c).length ((refsL k wd mk c).map (Value.int .i64)) ∧ Below (w1.heap.size + 1) w2 wr) (fun _ i _ => N - (intOf i).toNat)
  case atStart => exact ⟨0, by omega, rfl, by rw [refsL_zero]; exact World.ownsRow_nil _ _ _ _, Below.refl _ _⟩
  case round =>
    obtain ⟨c, hc, rfl, hown, hbl⟩ := hrel
    by_cases hlt : c < N
    · have b3 := b2.below hbl (by omega)
      obtain ⟨c0, c1, c2, c3⟩ := b3.c4
      have OWN := Lib.hid hown
      have BL := Lib.hid hbl
      have hle := refsL_le k wd mk c
      clear hown hbl
      go_wp2_with fail
      refine (ref_any k wd mk n (c : Int) G1.out G3.out HM.out (by omega) (by omega) _).mono ?_
      rintro e w3 ⟨rfl, hb⟩
      have OWN3 := Lib.hid (own_nx OWN.out hb)
      have BL3 := Lib.hid (BL.out.trans (hb.mono (by have := BL.out.size; omega)))
      have hz3 : w1.heap.size + 1 ≤ w3.heap.size := by have := BL3.out.size; omega
      clear hb OWN BL c0 c1 c2 c3 b3
      cases hr : refV k wd mk (c : Int)
      · have HR := Lib.hid (refsL_no hr)
        clear hr
        go_wp2_with fail
        go_roundw
        case rel => exact ⟨c + 1, by omega, by go_num, by rw [HR.out]; exact OWN3.out, BL3.out⟩
        case measure => simp [intOf]; omega
      · have HR := Lib.hid (refsL_yes hr)
        clear hr
        go_wp2_with (at_builtin; refine wpList_append_own _ rfl _ _ 75 rfl (w1.heap.size + 1) 3 i0 (.int .i64 0) 1 8 Tryd.underlying75 HI.out Z0.out Z1.out Z2.out rfl (by decide) _ _ _ rfl (OWN3.out.alloc _) ⟨w3.heap.size, 0, none⟩ 1 1 [.int .i64 (c : Int)] rfl rfl ?c1 ?c2 ?c3 ?c4 ?c5 ?_)
        case c1 => exact cell_one_new _ _ _
        case c2 => simp [Value.oneCell']
        case c3 => unfold maxLen; omega
        case c4 => omega
        case c5 => simp; omega
        intro v' w4 hown' hgrow _
        have BL4 := Lib.hid ((BL3.out.alloc hz3 _).grown hgrow (by simp; omega) (fun k e => (OWN3.out.lt k e).1))
        have OWN4 := Lib.hid hown'
        clear hown' hgrow
        go_wp2_with fail
        go_roundw
        case rel => exact ⟨c + 1, by omega, by go_num, by rw [HR.out]; simpa using OWN4.out, BL4.out⟩
        case measure => simp [intOf]; omega
    · obtain rfl : c = N := by omega
      obtain ⟨A, cc, hv, hcc⟩ := own_form hown
      have HV := Lib.hid hv
      have OWN := Lib.hid hown
      have BL := Lib.hid hbl
      clear hv hown hbl
      go_wp2_with fail
      go_ret2
      rw [show (slotsV k wd n).toNat = c by rw [HN.out]; simp]
      refine ⟨A, _, cc, by rw [HV.out]; rfl, Reads.of_own (by have h := OWN.out; rw [HV.out] at h; exact h), hcc, hB2.trans (BL.out.mono (by have := hB2.size; omega))⟩
end
end Go.Proofs.YtmjkohjijoddaaaDoor
