/- Shapes: laid, words; what Make lays, in plain Lean. -/
import Derived.Test.YtmjkohjijoddaaaDoorShI
import Derived.Test.YtmjkohjijoddaaaDoorArenaC
import Derived.Test.YtmjkohjijoddaaaDoorHeadM
namespace Go.Proofs.YtmjkohjijoddaaaDoor
open Go.RowKit
set_option linter.unusedVariables false
set_option linter.unusedSimpArgs false

/-- The first k words laid. -/
def layK (zs : List Int) (k : Nat) : List Int := zs.take k ++ List.replicate (zs.length - k) 0
theorem layK_len (zs : List Int) {k : Nat} (h : k ≤ zs.length) : (layK zs k).length = zs.length := by simp [layK]; omega
theorem layK_step (zs : List Int) {k : Nat} (h : k < zs.length) : (layK zs k).set k (zs.getD k 0) = layK zs (k + 1) := by
  have e : zs.length - k = (zs.length - (k + 1)) + 1 := by omega
  have hl : (zs.take k).length = k := by simp; omega
  unfold layK
  rw [e, List.replicate_succ, List.set_append, hl, if_neg (by omega), Nat.sub_self, List.set_cons_zero, List.take_add_one]
  simp only [List.getD, List.getElem?_eq_getElem h, Option.getD_some, Option.toList_some, List.append_assoc, List.singleton_append]
theorem layK_zero (zs : List Int) : layK zs 0 = List.replicate zs.length 0 := by simp [layK]
theorem layK_all (zs : List Int) : layK zs zs.length = zs := by simp [layK]

section
variable (w : World) (A : Option Addr) (n cp : Nat) (zs : List Int) (hr : Reads w w.heap.size 1 A n (zs.map (Value.int .u64)))
include hr

set_option maxRecDepth 100000 in
set_option maxHeartbeats 2000000 in
theorem laid_ok (h0 : 16 ≤ n) (h1 : n ≤ 65536) (h2 : n % 2 = 0) : Calls Tryd.prog 17 #[.slice A n cp] w fun e w' =>
    ∃ bs br c, e = .returned (.pointer (some ⟨bs, 0, none⟩)) ∧ IsAr w' bs br zs [] c ∧ w.heap.size ≤ bs ∧ w.heap.size ≤ br ∧ Below w.heap.size w w' ∧ c ≤ 65536 := by
  have hl : zs.length = n := by simpa using hr.1
  obtain ⟨b, off, rfl, hb, hc⟩ := hr.spotN (by omega) (by omega)
  have HC := Lib.hid (fun j (hj : j < n) => show w.cell? ⟨b, off + j, none⟩ = some (.int .u64 (zs.getD j 0)) from hc j _ (by simp [List.getD, hl, hj]))
  have HN := Lib.hid (fun W => new_ok W n h0 h1 h2)
  clear hc hr
  go_enter Tryd.func17, Tryd.ntmps17
  go_wp2_with fail
  refine (HN.out _).mono ?_
  rintro e w1 ⟨bs, br, rfl, hI, hs, hr, hb1⟩
  have I1 := Lib.hid hI
  have B1 := Lib.hid hb1
  clear hI hb1
  go_wp2_with fail
  go_loopw [5] (fun i wr => ∃ k : Nat, k ≤ n ∧ i = .int .i64 (k : Int) ∧ IsAr wr bs br (layK zs k) [] k ∧ Below w.heap.size w wr) (fun i _ => n - (intOf i).toNat)
  case atStart => exact ⟨0, Nat.zero_le _, rfl, by rw [layK_zero, hl]; exact I1.out, B1.out⟩
  case round =>
    obtain ⟨k, hk, rfl, hI, hB⟩ := hrel
    by_cases hlt : k < n
    · have hc : wr.cell? ⟨b, off + k, none⟩ = some (.int .u64 (zs.getD k 0)) := (hB.cell (p := ⟨b, off + k, none⟩) hb).trans (HC.out k hlt)
      have hs1 := Lib.hid (layK_step zs (k := k) (by omega))
      have hll := layK_len zs (k := k) (by omega)
      have HI := Lib.hid hI
      have HB := Lib.hid hB
      clear hI hB
      generalize zs.getD k 0 = z at *
      go_wp2_with fail
      refine (store_any _ bs br (layK zs k) [] k HI.out (k : Int) z (by omega) (by omega) (by omega)).mono ?_
      rintro e w2 ⟨rfl, hI, hT⟩
      have k1 : hasE (layK zs k).length (k : Int) 1 = 0 := hasE_is (by omega)
      have k2 : stW (layK zs k) (k : Int) z = layK zs (k + 1) := by rw [stW, if_pos k1]; exact hs1.out
      have k3 : stC (layK zs k) (k : Int) k = k + 1 := by rw [stC, if_pos k1]
      rw [k1]
      rw [k2, k3] at hI
      have HI2 := Lib.hid hI
      have HB2 := Lib.hid (btouchA HB.out hs hr hT)
      clear hI hT k1 k2 k3
      go_wp2_with fail
      go_roundw
      case rel => exact ⟨k + 1, by omega, by go_num, HI2.out, HB2.out⟩
      case measure => simp [intOf]; omega
    · obtain rfl : k = n := by omega
      have HI := Lib.hid hI
      have HB := Lib.hid hB
      clear hI hB
      go_wp2_with fail
      go_ret
      exact ⟨bs, br, k, rfl, by have := HI.out; rw [← hl, layK_all] at this; rw [hl] at this; exact this, hs, hr, HB.out, h1⟩

omit hr in
theorem laid_no (h : n < 16 ∨ 65536 < n ∨ (16 ≤ n ∧ n ≤ 65536 ∧ n % 2 ≠ 0)) (hn : n ≤ 1000000) : Calls Tryd.prog 17 #[.slice A n cp] w fun e w' => e = .returned (.pointer none) ∧ w = w' := by
  have HN := Lib.hid (fun W => new_no W (n : Int) (by omega) (by omega) (by omega))
  clear h
  go_enter Tryd.func17, Tryd.ntmps17
  go_wp2_with fail
  refine (HN.out _).mono ?_
  rintro e w1 ⟨rfl, rfl⟩
  go_wp2_with fail
  go_ret
  exact ⟨rfl, rfl⟩
end

theorem words08 (w : World) (bs br : Nat) (ws : List Int) (rs : List Value) (c : Nat) (h : IsAr w bs br ws rs c) : Calls Tryd.prog 22 #[.pointer (some ⟨bs, 0, none⟩)] w fun e w' =>
    ∃ A cp, e = .returned (.slice A ws.length cp) ∧ w'.ownsRow w.heap.size 24 1 (.slice A ws.length cp) ws.length (ws.map (Value.int .u64)) ∧ Below w.heap.size w w' := by
  have hlen := h.hi
  have HL := Lib.hid (len_any w bs br ws rs c h)
  have HW := Lib.hid (words_any w bs br ws rs c h 0 (ws.length : Int) (by omega) (by omega) (by omega) (by omega))
  have k1 : hasE ws.length 0 (ws.length : Int) = 0 := hasE_is (by omega)
  have k2 : woL ws 0 (ws.length : Int) = ws := by simp [woL, k1]
  rw [k1, k2] at HW
  clear k1 k2 h
  go_enter Tryd.func22, Tryd.ntmps22
  go_wp2_with fail
  refine HL.out.mono ?_
  rintro e w1 ⟨rfl, rfl⟩
  go_wp2_with fail
  refine HW.out.mono ?_
  rintro e w1 ⟨v, rfl, ho, hb⟩
  obtain ⟨A, cp, rfl, _⟩ := own_form ho
  go_wp2_with fail
  go_ret
  exact ⟨A, cp, rfl, ho, hb⟩
end Go.Proofs.YtmjkohjijoddaaaDoor
