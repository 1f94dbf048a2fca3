/- The chapter's examples of layer 2. -/
import Derived.Test.YtehicgndccnopaaArenaE
namespace Go.Proofs.Ytehicgndccnopaa
open Go.RowKit
set_option linter.unusedVariables false
set_option linter.unusedSimpArgs false

theorem btouch {w w' w0 : World} {B bs br : Nat} (h : Below B w0 w) (hs : B ≤ bs) (hr : B ≤ br) (hB : B ≤ w0.heap.size) (ht : Touch bs br w w') : Below B w0 w' := Below.touch h hs hr hB ht
theorem own_touch {w w' : World} {base : Nat} {e : TypeId} {size : Nat} {v : Value} {n : Nat} {xs : List Value} {bs br : Nat} (h : w.ownsRow base e size v n xs) (h1 : bs < base) (h2 : br < base) (ht : Touch bs br w w') : w'.ownsRow base e size v n xs := by
  refine ⟨h.1, ?_⟩
  rcases h.2 with h3 | ⟨g, cap, cur, rfl, hb, hg, h3⟩
  · exact .inl h3
  · exact .inr ⟨g, cap, cur, rfl, hb, (ht.block g (Blk.lt hg) (by omega) (by omega)).trans hg, h3⟩
theorem own_nx2 {w w' : World} {base : Nat} {e : TypeId} {size : Nat} {v : Value} {n : Nat} {xs : List Value} (h : w.ownsRow base e size v n xs) (hb : Below w.heap.size w w') : w'.ownsRow base e size v n xs :=
  h.kept (only_of_below hb none) (by cases v.ownBlock <;> simp)
theorem own_form2 {w : World} {base : Nat} {e : TypeId} {size : Nat} {v : Value} {n : Nat} {xs : List Value} (h : w.ownsRow base e size v n xs) : ∃ A c, v = .slice A n c := by
  rcases h.2 with ⟨rfl, rfl⟩ | ⟨g, cap, cur, rfl, _⟩
  · exact ⟨none, 0, rfl⟩
  · exact ⟨_, cap, rfl⟩

theorem lit3 (w : World) (a b c : Int) : Reads (w.alloc (.cells #[.int .u64 a, .int .u64 b, .int .u64 c] 22)) (w.alloc (.cells #[.int .u64 a, .int .u64 b, .int .u64 c] 22)).heap.size 1 (some ⟨w.heap.size, 0, none⟩) 3 ([a, b, c].map (Value.int .u64)) :=
  ⟨rfl, fun _ => ⟨_, rfl, by simp, fun j u hu => by
    have hb := Blk.new w 22 #[.int .u64 a, .int .u64 b, .int .u64 c]
    match j, hu with
    | 0, hu => cases hu; exact hb.cell 0
    | 1, hu => cases hu; exact hb.cell 1
    | 2, hu => cases hu; exact hb.cell 2⟩⟩

def Z16 : List Int := List.replicate 16 0
def A1 : List Int := stW Z16 0 1
def A2 : List Int := stW A1 1 2
def A3 : List Int := mvW A2 1 0 2
def A4 : List Int := mvW A3 0 1 2
theorem aliveFacts : hasE Z16.length 0 1 = 0 ∧ hasE A1.length 1 1 = 0 ∧ mvE A2.length 1 0 2 = 0 ∧ woL A3 0 3 = [1, 1, 2] ∧ hasE A3.length 0 3 = 0 ∧ mvE A3.length 0 1 2 = 0 ∧ woL A4 0 3 = [1, 2, 2] ∧ hasE A4.length 0 3 = 0 ∧ hasE A4.length 16 1 = 2 ∧ hasE A4.length 15 2 = 2 ∧
    stC Z16 0 0 = 1 ∧ stC A1 1 1 = 2 ∧ mvC A2 1 0 2 2 = 4 ∧ mvC A3 0 1 2 4 = 6 := by decide

set_option maxRecDepth 100000 in
set_option maxHeartbeats 2000000 in
theorem alive02 (w : World) : Calls Try.prog 27 #[] w fun e w' => e = .returned (.bool true) ∧ Below w.heap.size w w' := by
  obtain ⟨q1, q2, q3, q4, q5, q6, q7, q8, q9, q10, q11, q12, q13, q14⟩ := aliveFacts
  have Q := Lib.hid aliveFacts
  clear q1 q2 q3 q4 q5 q6 q7 q8 q9 q10 q11 q12 q13 q14
  have N16 := Lib.hid (fun W => new_ok W 16 (by omega) (by omega) (by omega))
  go_enter Try.func27, Try.ntmps27
  go_wp2_with fail
  refine (N16.out _).mono ?_
  rintro e w1 ⟨bs, br, rfl, hI, hs, hr, hb1⟩
  have I1 : Hid (IsAr w1 bs br Z16 [] 0) := Lib.hid hI
  clear hI
  go_wp2_with fail
  refine (store_any _ bs br Z16 [] 0 I1.out 0 1 (by omega) (by omega) (by omega)).mono ?_
  rintro e w2 ⟨rfl, hI, hT⟩
  rw [Q.out.1]
  rw [Q.out.2.2.2.2.2.2.2.2.2.2.1] at hI
  have I2 : Hid (IsAr w2 bs br A1 [] 1) := Lib.hid hI
  have B2 := Lib.hid (btouch hb1 hs hr (Nat.le_refl _) hT)
  clear hI hT hb1
  go_wp2_with fail
  refine (store_any _ bs br A1 [] 1 I2.out 1 2 (by omega) (by omega) (by omega)).mono ?_
  rintro e w3 ⟨rfl, hI, hT⟩
  rw [Q.out.2.1]
  rw [Q.out.2.2.2.2.2.2.2.2.2.2.2.1] at hI
  have I3 : Hid (IsAr w3 bs br A2 [] 2) := Lib.hid hI
  have B3 := Lib.hid (btouch B2.out hs hr (Nat.le_refl _) hT)
  clear hI hT B2
  go_wp2_with fail
  refine (move_any _ bs br A2 [] 2 I3.out 1 0 2 (by omega) (by omega) (by omega) (by omega) (by omega) (by omega) (by omega)).mono ?_
  rintro e w4 ⟨rfl, hI, hT⟩
  rw [Q.out.2.2.1]
  rw [Q.out.2.2.2.2.2.2.2.2.2.2.2.2.1] at hI
  have I4 : Hid (IsAr w4 bs br A3 [] 4) := Lib.hid hI
  have B4 := Lib.hid (btouch B3.out hs hr (Nat.le_refl _) hT)
  clear hI hT B3
  go_wp2_with fail
  refine (words_any _ bs br A3 [] 4 I4.out 0 3 (by omega) (by omega) (by omega) (by omega)).mono ?_
  rintro e w5 ⟨v, rfl, hown, hb⟩
  rw [Q.out.2.2.2.2.1]
  rw [Q.out.2.2.2.1] at hown
  have hlt1 := I4.out.s.lt
  have hlt2 := I4.out.r.lt
  have I5 := Lib.hid (I4.out.nx hb)
  have B5 := Lib.hid (bnext B4.out hb)
  obtain ⟨A, cc, hv⟩ := own_form2 hown
  rw [hv] at hown ⊢
  have O5 := Lib.hid hown
  clear hown hb B4 hv
  go_wp2_with fail
  refine (writes_any _ bs br A3 [] 4 I5.out).mono ?_
  rintro e w' ⟨rfl, rfl⟩
  go_wp2_with fail
  refine (move_any _ bs br A3 [] 4 I5.out 0 1 2 (by omega) (by omega) (by omega) (by omega) (by omega) (by omega) (by omega)).mono ?_
  rintro e w6 ⟨rfl, hI, hT⟩
  rw [Q.out.2.2.2.2.2.1]
  rw [Q.out.2.2.2.2.2.2.2.2.2.2.2.2.2] at hI
  have I6 : Hid (IsAr w6 bs br A4 [] 6) := Lib.hid hI
  have B6 := Lib.hid (btouch B5.out hs hr (Nat.le_refl _) hT)
  have O6 := Lib.hid (own_touch O5.out hlt1 hlt2 hT)
  clear hI hT B5 O5
  go_wp2_with fail
  refine (words_any _ bs br A4 [] 6 I6.out 0 3 (by omega) (by omega) (by omega) (by omega)).mono ?_
  rintro e w7 ⟨v, rfl, hown, hb⟩
  rw [Q.out.2.2.2.2.2.2.2.1]
  rw [Q.out.2.2.2.2.2.2.1] at hown
  have I7 := Lib.hid (I6.out.nx hb)
  have B7 := Lib.hid (bnext B6.out hb)
  have O7 := Lib.hid (own_nx2 O6.out hb)
  obtain ⟨A', cc', hv⟩ := own_form2 hown
  rw [hv] at hown ⊢
  have P7 := Lib.hid hown
  clear hown hb B6 O6 hv
  go_wp2_with fail
  refine (load_any _ bs br A4 [] 6 I7.out 16 (by omega) (by omega)).mono ?_
  rintro e w' ⟨rfl, rfl⟩
  rw [Q.out.2.2.2.2.2.2.2.2.1]
  go_wp2_with fail
  refine (new_no _ 17 (by omega) (by omega) (by omega)).mono ?_
  rintro e w' ⟨rfl, rfl⟩
  go_wp2_with fail
  refine (same2_any _ A _ 3 cc 3 3 [1, 1, 2] [1, 1, 2] (((Reads.of_own O7.out).alloc (Nat.le_refl _) _).more (by simp)) (lit3 _ 1 1 2) (by omega) (by omega)).mono ?_
  rintro e w8 ⟨rfl, hb⟩
  rw [show decide ([1, 1, 2] = ([1, 1, 2] : List Int)) = true from by decide]
  have hba := bnext (balloc (Below.refl _ w7) _) hb
  have I8 := Lib.hid (I7.out.nx hba)
  have B8 := Lib.hid (bnext B7.out hba)
  have P8 := Lib.hid (own_nx2 P7.out hba)
  clear hb hba B7 P7 O7
  go_wp2_with fail
  refine (same2_any _ A' _ 3 cc' 3 3 [1, 2, 2] [1, 2, 2] (((Reads.of_own P8.out).alloc (Nat.le_refl _) _).more (by simp)) (lit3 _ 1 2 2) (by omega) (by omega)).mono ?_
  rintro e w9 ⟨rfl, hb⟩
  rw [show decide ([1, 2, 2] = ([1, 2, 2] : List Int)) = true from by decide]
  have hba := bnext (balloc (Below.refl _ w8) _) hb
  have I9 := Lib.hid (I8.out.nx hba)
  have B9 := Lib.hid (bnext B8.out hba)
  clear hb hba B8 P8
  go_wp2_with fail
  refine (fill_any _ bs br A4 [] 6 I9.out 15 2 0 (by omega) (by omega) (by omega) (by omega) (by omega)).mono ?_
  rintro e w10 ⟨rfl, hI, hT⟩
  rw [Q.out.2.2.2.2.2.2.2.2.2.1]
  have B10 := btouch B9.out hs hr (Nat.le_refl _) hT
  clear hI hT
  go_wp2_with fail
  go_ret
  exact ⟨rfl, B10⟩
end Go.Proofs.Ytehicgndccnopaa
