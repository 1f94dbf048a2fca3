/- Shapes: the chapter's example. -/
import Derived.Test.YtmjkohjijoddaaaDoorShH
import Derived.Test.YtmjkohjijoddaaaDoorHeadT
import Derived.Test.YtmjkohjijoddaaaDoorSameV
namespace Go.Proofs.YtmjkohjijoddaaaDoor
open Go.RowKit
set_option linter.unusedVariables false
set_option linter.unusedSimpArgs false

theorem IsTb.touchA {w w' : World} {B tb g bs br : Nat} {v : Value} {ts : List Ty} {ws : List Int} {rs : List Value} {c : Nat} (h : IsTb w B tb g v ts) (ha : IsAr w bs br ws rs c) (ht : Touch bs br w w') : IsTb w' B tb g v ts := by
  refine ⟨h.s.touch ht (h.s.ne_ ha.s (by decide)) (h.s.ne_ ha.r (by decide)), ⟨h.r.1, ?_⟩, h.ob, h.ne, h.lo, h.hi⟩
  rcases h.r.2 with hn | ⟨g', cap, cur, e, hb, hgg, rest⟩
  · exact .inl hn
  · have hk : Blk w g' 72 cur := hgg
    exact .inr ⟨g', cap, cur, e, hb, hk.touch ht (hk.ne_ ha.s (by decide)) (hk.ne_ ha.r (by decide)), rest⟩
theorem btouchA {w0 w w' : World} {bs br : Nat} (h : Below w0.heap.size w0 w) (hs : w0.heap.size ≤ bs) (hr : w0.heap.size ≤ br) (ht : Touch bs br w w') : Below w0.heap.size w0 w' := Below.touch h hs hr (Nat.le_refl _) ht

def Z16s : List Int := List.replicate 16 0
def T1s : List Ty := [(2, 0, 0)]
def W1s : List Int := mkW T1s Z16s 1 1 3
def W2s : List Int := ssW (2, 0, 0) 3 W1s 1 0 7
theorem sF1 : newE [] T1s = 0 ∧ mkE T1s Z16s 1 1 3 = 0 ∧ mkC T1s Z16s 1 1 3 0 = 5 := by decide
theorem sF2 : ofvE T1s W1s 1 = 0 ∧ hdX dT W1s 1 = 1 ∧ hdX dY W1s 1 = 1 ∧ hdX dL W1s 1 = 3 ∧ hdX dS W1s 1 = 2 ∧ getT T1s 1 = (2, 0, 0) := by decide
theorem sF3 : slIn (2, 0, 0) 3 0 = true ∧ ssC (2, 0, 0) 3 5 0 = 6 ∧ vwN (2, 0, 0) 3 = 3 ∧ hasE W2s.length 3 1 = 0 ∧ ldV W2s 3 = 7 ∧ W1s.length = 16 ∧ W2s.length = 16 := by decide
theorem sF4 : ofvE T1s W2s 0 = 7 ∧ mkE T1s W2s 7 1 3 = 2 ∧ mkW T1s W2s 7 1 3 = W2s ∧ addrV 3 = 1048582 := by decide
theorem sF5 : tgV (2, 0, 0) 3 W2s 1 = [7] := by decide
theorem sF6 : WdsOk W1s ∧ WdsOk W2s ∧ WdsOk Z16s ∧ ∀ t ∈ T1s, OkW t := by
  refine ⟨by unfold WdsOk; decide, by unfold WdsOk; decide, by unfold WdsOk; decide, ?_⟩
  intro t ht
  simp [T1s] at ht
  subst ht
  exact ⟨by decide, by decide, by decide, by decide, by decide⟩

set_option maxRecDepth 100000 in
set_option maxHeartbeats 4000000 in
theorem alive08 (w : World) (hF : Flds w) : Calls Tryd.prog 16 #[] w fun e w' => e = .returned (.bool true) ∧ Below w.heap.size w w' := by
  have HF := Lib.hid hF
  clear hF
  have N16 := Lib.hid (fun W => new_ok W 16 (by omega) (by omega) (by omega))
  have Q1 := Lib.hid sF1
  have Q2 := Lib.hid sF2
  have Q3 := Lib.hid sF3
  have Q4 := Lib.hid sF4
  have Q5 := Lib.hid sF5
  have Q6 := Lib.hid sF6
  go_enter Tryd.func16, Tryd.ntmps16
  go_wp2_with fail
  refine (N16.out _).mono ?_
  rintro e w1 ⟨bs, br, rfl, hI, hs, hr, hb1⟩
  have I1 : Hid (IsAr w1 bs br Z16s [] 0) := Lib.hid hI
  have B1 := Lib.hid hb1
  clear hI hb1
  go_wp2_with fail
  have I2 := Lib.hid (I1.out.alloc (.cells #[.int .u8 2, .int .i64 0, .int .u64 0] 72))
  have B2 := Lib.hid (balloc B1.out (.cells #[.int .u8 2, .int .i64 0, .int .u64 0] 72))
  have R2 := Lib.hid (show Reads (w1.alloc (.cells #[.int .u8 2, .int .i64 0, .int .u64 0] 72)) (w1.alloc (.cells #[.int .u8 2, .int .i64 0, .int .u64 0] 72)).heap.size 3 (some ⟨w1.heap.size, 0, none⟩) 1 (T1s.flatMap tyC) by
    have hb := Blk.new w1 72 #[.int .u8 2, .int .i64 0, .int .u64 0]
    exact ⟨rfl, fun _ => ⟨_, rfl, by simp, fun j u hu => match j, hu with
      | 0, hu => by cases hu; exact hb.cell 0
      | 1, hu => by cases hu; exact hb.cell 1
      | 2, hu => by cases hu; exact hb.cell 2⟩⟩)
  clear I1 B1
  refine (newT_ok _ _ 1 1 T1s R2.out rfl Q6.out.2.2.2 (by omega) Q1.out.1).mono ?_
  rintro e w3 ⟨tb, tg, tv, rfl, hT, _, hb⟩
  have I3 := Lib.hid (I2.out.nx hb)
  have B3 := Lib.hid (bnext B2.out hb)
  have K3 := Lib.hid hT
  clear hT hb I2 B2 R2
  go_wp2_with fail
  refine (make_any _ bs br Z16s [] 0 I3.out _ tb tg tv T1s K3.out Q6.out.2.2.2 (HF.out.nx B3.out) (by decide) (by omega) 1 1 3 (by omega) (by omega) (by omega) (by omega)).mono ?_
  rintro e w4 ⟨rfl, hI, hT⟩
  rw [Q1.out.2.1]
  rw [Q1.out.2.2] at hI
  have I4 : Hid (IsAr w4 bs br W1s [] 5) := Lib.hid hI
  have K4 := Lib.hid (K3.out.touchA I3.out hT)
  have B4 := Lib.hid (btouchA B3.out hs hr hT)
  clear hI hT I3 K3 B3
  go_wp2_with fail
  refine (shOf_any _ bs br W1s [] 5 I4.out _ tb tg tv T1s K4.out Q6.out.2.2.2 (HF.out.nx B4.out) Q6.out.1 1 (by omega) (by omega)).mono ?_
  rintro e w5 ⟨hg, hb⟩
  obtain ⟨vb, rfl, hV, hvb⟩ : ∃ vb, e = .returned (.tuple #[.pointer (some ⟨vb, 0, none⟩), .int .i64 0]) ∧ IsVw w5 vb bs 1 1 1 3 2 (2, 0, 0) ∧ w4.heap.size ≤ vb := by
    rcases hg with ⟨h, _⟩ | ⟨_, vb, h1, h2, h3⟩
    · exact absurd Q2.out.1 h
    · rw [Q2.out.2.1, Q2.out.2.2.1, Q2.out.2.2.2.1, Q2.out.2.2.2.2.1, Q2.out.2.2.2.2.2] at h2
      exact ⟨vb, h1, h2, h3⟩
  have I5 := Lib.hid (I4.out.nx hb)
  have K5 := Lib.hid (K4.out.nx hb)
  have B5 := Lib.hid (bnext B4.out hb)
  have V5 := Lib.hid hV
  clear hg hb hV I4 K4 B4
  go_wp2_with fail
  have hx := Q6.out.2.2.2 (2, 0, 0) (by simp [T1s])
  have hl1 : vwN (2, 0, 0) 3 ≤ 65536 := by rw [Q3.out.2.2.1]; omega
  have hf1 : 2 * (1 : Int) + 1 + vwN (2, 0, 0) 3 ≤ W1s.length := by rw [Q3.out.2.2.1, Q3.out.2.2.2.2.2.1]; decide
  refine (vStore_any _ vb bs 1 1 1 3 2 (2, 0, 0) V5.out hx br W1s [] 5 I5.out (by omega) (by omega) hl1 hf1 0 7 (by omega)).mono ?_
  rintro e w6 ⟨rfl, hI, hT⟩
  rw [Q3.out.1]
  rw [Q3.out.2.1] at hI
  have I6 : Hid (IsAr w6 bs br W2s [] 6) := Lib.hid hI
  have K6 := Lib.hid (K5.out.touchA I5.out hT)
  have V6 : Hid (IsVw w6 vb bs 1 1 1 3 2 (2, 0, 0)) := Lib.hid (Blk.touch V5.out hT (Blk.ne_ V5.out I5.out.s (by decide)) (Blk.ne_ V5.out I5.out.r (by decide)))
  have B6 := Lib.hid (btouchA B5.out hs hr hT)
  clear hI hT I5 K5 B5 V5 hf1
  rw [if_pos rfl]
  go_wp2_with fail
  refine (load_any _ bs br W2s [] 6 I6.out 3 (by omega) (by omega)).mono ?_
  rintro e w' ⟨rfl, rfl⟩
  rw [Q3.out.2.2.2.1, Q3.out.2.2.2.2.1]
  go_wp2_with fail
  refine (shOf_any _ bs br W2s [] 6 I6.out _ tb tg tv T1s K6.out Q6.out.2.2.2 (HF.out.nx B6.out) Q6.out.2.1 0 (by omega) (by omega)).mono ?_
  rintro e w7 ⟨hg, hb⟩
  obtain rfl : e = .returned (.tuple #[.pointer none, .int .i64 7]) := by
    rcases hg with ⟨_, h⟩ | ⟨h, _⟩
    · rw [Q4.out.1] at h; exact h
    · rw [Q4.out.1] at h; cases h
  have I7 := Lib.hid (I6.out.nx hb)
  have K7 := Lib.hid (K6.out.nx hb)
  have V7 := Lib.hid (V6.out.nx hb)
  have B7 := Lib.hid (bnext B6.out hb)
  clear hg hb I6 K6 B6 V6
  go_wp2_with fail
  have hf2 : 2 * (1 : Int) + 1 + vwN (2, 0, 0) 3 ≤ W2s.length := by rw [Q3.out.2.2.1, Q3.out.2.2.2.2.2.2]; decide
  refine (targets_any _ vb bs br 1 1 1 3 2 (2, 0, 0) W2s [] 6 V7.out hx I7.out (by omega) (by omega) hl1 hf2).mono ?_
  rintro e w8 ⟨v8, rfl, ho8, hb⟩
  rw [Q5.out] at ho8
  obtain ⟨A8, c8, rfl, hc8⟩ := own_form ho8
  have I8 := Lib.hid ((I7.out.nx hb).alloc (.cells #[.int .u64 7] 24))
  have K8 := Lib.hid ((K7.out.nx hb).nx (balloc (Below.refl w8.heap.size w8) (.cells #[.int .u64 7] 24)))
  have B8 := Lib.hid (balloc (bnext B7.out hb) (.cells #[.int .u64 7] 24))
  have O8 := Lib.hid (((Reads.of_own ho8).alloc (Nat.le_refl _) (.cells #[.int .u64 7] 24)).more (B' := (w8.alloc (.cells #[.int .u64 7] 24)).heap.size) (by simp))
  clear ho8 hb I7 K7 B7 V7 hf2
  go_wp2_with fail
  have S8 := Lib.hid (show Reads (w8.alloc (.cells #[.int .u64 7] 24)) (w8.alloc (.cells #[.int .u64 7] 24)).heap.size 1 (some ⟨w8.heap.size, 0, none⟩) 1 ([7].map (Value.int .u64)) by
    have hb := Blk.new w8 24 #[.int .u64 7]
    exact ⟨rfl, fun _ => ⟨_, rfl, by simp, fun j u hu => match j, hu with
      | 0, hu => by cases hu; exact hb.cell 0⟩⟩)
  refine (sameW_any _ A8 _ [7].length c8 1 1 [7] [7] O8.out S8.out (by decide) (by omega)).mono ?_
  rintro e w9 ⟨rfl, hb⟩
  have I9 := Lib.hid (I8.out.nx hb)
  have K9 := Lib.hid (K8.out.nx hb)
  have B9 := Lib.hid (bnext B8.out hb)
  clear hb I8 K8 B8 O8 S8
  rw [show decide (([7] : List Int) = [7]) = true by decide]
  go_wp2_with fail
  refine (make_any _ bs br W2s [] 6 I9.out _ tb tg tv T1s K9.out Q6.out.2.2.2 (HF.out.nx B9.out) (by decide) (by omega) 7 1 3 (by omega) (by omega) (by omega) (by omega)).mono ?_
  rintro e w10 ⟨rfl, hI, hT⟩
  rw [Q4.out.2.1]
  have B10 := Lib.hid (btouchA B9.out hs hr hT)
  clear hI hT I9 K9 B9
  go_wp2_with fail
  refine (addr_any _ 3 (by omega)).mono ?_
  rintro e w' ⟨rfl, rfl⟩
  rw [Q4.out.2.2.2]
  go_wp2_with fail
  go_ret
  exact ⟨rfl, B10.out⟩
end Go.Proofs.YtmjkohjijoddaaaDoor
