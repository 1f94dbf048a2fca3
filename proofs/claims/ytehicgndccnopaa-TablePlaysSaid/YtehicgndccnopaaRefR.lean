/- The document's answer of layer 6: Read. -/
import Derived.Test.YtehicgndccnopaaTableR
import Derived.Test.YtehicgndccnopaaRefG
namespace Go.Proofs.Ytehicgndccnopaa
open Go.RowKit
set_option linter.unusedVariables false
set_option linter.unusedSimpArgs false

theorem addE_zero {acc : List Ty} {t : Ty} : addE acc t = 0 ↔ okT t.1 t.2.1 t.2.2 = true ∧ acc.length < 64 := by
  unfold addE
  cases okT t.1 t.2.1 t.2.2
  · simp
  · by_cases h : 64 ≤ acc.length
    · simp [h]
    · simp [h]; omega
theorem newE_zero : ∀ (ts acc : List Ty), newE acc ts = 0 ↔ (∀ t ∈ ts, okT t.1 t.2.1 t.2.2 = true) ∧ (ts = [] ∨ acc.length + ts.length ≤ 64)
  | [], acc => by simp [newE]
  | t :: ts, acc => by
    rw [newE]
    by_cases h : addE acc t = 0
    · rw [if_pos h, newE_zero ts (acc ++ [t])]
      obtain ⟨h1, h2⟩ := addE_zero.1 h
      constructor
      · rintro ⟨h3, h4⟩
        refine ⟨fun x hx => ?_, .inr ?_⟩
        · rcases List.mem_cons.1 hx with rfl | hx
          · exact h1
          · exact h3 x hx
        · rcases h4 with rfl | h4
          · simp; omega
          · simp at h4 ⊢; omega
      · rintro ⟨h3, h4⟩
        refine ⟨fun x hx => h3 x (List.mem_cons_of_mem _ hx), .inr ?_⟩
        rcases h4 with h4 | h4
        · cases h4
        · simp at h4 ⊢; omega
    · rw [if_neg h]
      constructor
      · intro h0; exact absurd h0 h
      · rintro ⟨h3, h4⟩
        refine absurd (addE_zero.2 ⟨h3 t (by simp), ?_⟩) h
        rcases h4 with h4 | h4
        · cases h4
        · simp at h4; omega

/-- The mask, from its highest byte down. -/
def maskDn (s : ByteArray) (a : Nat) : Nat → Nat
  | 0 => 0
  | r + 1 => 256 * maskDn s a r + byt s (a + (7 - r))
theorem maskDn_lt (s : ByteArray) (a : Nat) : ∀ r, maskDn s a r < 2 ^ (8 * r)
  | 0 => by simp [maskDn]
  | r + 1 => by
    have h1 := maskDn_lt s a r
    have h2 := byt_lt s (a + (7 - r))
    have h4 : 2 ^ (8 * (r + 1)) = 256 * 2 ^ (8 * r) := by rw [Nat.mul_add, Nat.pow_add]; omega
    rw [maskDn, h4]
    omega
theorem maskDn_up (s : ByteArray) (a : Nat) : maskDn s a 8 = maskUp s a 8 := by
  simp only [maskDn, maskUp]
  simp
  omega
theorem dn_step (s : ByteArray) (a r : Nat) (hr : r < 8) :
    IntKind.u64.wrap (IntKind.u64.wrap (256 * (maskDn s a r : Int)) + IntKind.u64.wrap (byt s (a + (7 - r)) : Int)) = (maskDn s a (r + 1) : Int) := by
  have h1 := byt_lt s (a + (7 - r))
  have h3 := maskDn_lt s a r
  have h2 := pow_le8 hr
  rw [wrapuB (byt s (a + (7 - r))) (by omega) (by omega), wrapuB (256 * (maskDn s a r : Int)) (by omega) (by omega), wrapuB _ (by omega) (by omega), maskDn]
  omega

/-- What the document's Read gives. -/
def GivesReadR (s : ByteArray) (w : World) (e : Ending) (w' : World) : Prop :=
  ∃ A n c, e = .returned (.tuple #[.slice A n c, .int .i64 (if rdOk s then 0 else 7)]) ∧ Reads w' w'.heap.size 3 A n ((if rdOk s then tysAt s (byt s 0) else []).flatMap tyC) ∧ (if rdOk s then tysAt s (byt s 0) else []).length = n ∧ n ≤ c ∧ Below w.heap.size w w'
theorem givesReadR_no {s : ByteArray} {w w' : World} (h : rdOk s = false) (hb : Below w.heap.size w w') : GivesReadR s w (.returned (.tuple #[.slice none 0 0, .int .i64 7])) w' :=
  ⟨none, 0, 0, by rw [h]; rfl, by rw [h]; exact Reads.none_, by rw [h]; rfl, Nat.le_refl _, hb⟩

set_option maxRecDepth 100000 in
set_option maxHeartbeats 2000000 in
theorem rread_any (w : World) (s : ByteArray) (hs : s.size ≤ 100000) : Calls Try.prog 50 #[.string s] w (GivesReadR s w) := by
  by_cases h0 : s.size = 0
  · have HZ := Lib.hid (show rdOk s = false by simp [rdOk, h0]; omega)
    have h0' : s.size < 1 := by omega
    clear h0
    go_enter Try.func50, Try.ntmps50
    go_wp2_with fail
    go_ret2
    exact givesReadR_no HZ.out (Below.refl _ _)
  · have h0' : 0 < s.size := by omega
    have hb := byt_get s 0 h0'
    have hlt := byt_lt s 0
    by_cases h1 : s.size = 1 + 10 * byt s 0
    · have t1 : ((s.size : Int) != 1 + 10 * (byt s 0 : Int)) = false := by
        have : (s.size : Int) = 1 + 10 * (byt s 0 : Int) := by omega
        simp [this]
      obtain ⟨n, hn⟩ : ∃ n, n = byt s 0 := ⟨_, rfl⟩
      rw [← hn] at h1 hb hlt t1
      have HN := Lib.hid hn
      have HSZ := Lib.hid h1
      by_cases h64 : 64 < n
      · have HZ := Lib.hid (show rdOk s = false by
          have : newE [] (tysAt s n) ≠ 0 := by
            intro e
            have := ((newE_zero _ _).1 e).2
            rw [tysAt_len] at this
            rcases this with h | h
            · have := congrArg List.length h; rw [tysAt_len] at this; simp at this; omega
            · simp at h; omega
          simp [rdOk, ← hn, this])
        clear h1 hn
        go_enter Try.func50, Try.ntmps50
        go_wp2_with fail
        go_ret2
        exact givesReadR_no HZ.out (Below.refl _ _)
      · have h64' : n ≤ 64 := by omega
        clear h1 hn h64
        obtain ⟨i0, hi, hz0, hz1, hz2⟩ := info_parts Try.infoTy
        have HII := Lib.hid hi
        have Z0 := Lib.hid hz0
        have Z1 := Lib.hid hz1
        have Z2 := Lib.hid hz2
        clear hi hz0 hz1 hz2
        go_enter Try.func50, Try.ntmps50
        go_wp2_with fail
        clear t1 hb
        go_loopw [4, 5] (fun v i wr => ∃ k : Nat, k ≤ n ∧ i = .int .i64 (1 + 10 * (k : Int)) ∧ wr.ownsRow w.heap.size 24 3 v k ((tysAt s k).flatMap tyC) ∧ Below w.heap.size w wr ∧ Hid (∀ t ∈ tysAt s k, okT t.1 t.2.1 t.2.2 = true)) (fun _ i _ => s.size - (intOf i).toNat)
        case atStart => exact ⟨0, by omega, rfl, World.ownsRow_nil _ _ _ _, Below.refl _ _, Lib.hid (by simp [tysAt])⟩
        case round =>
          obtain ⟨k, hk, rfl, hown, hbl, HOK⟩ := hrel
          obtain ⟨wo, rfl⟩ : ∃ wo : World, wo = wr := ⟨_, rfl⟩
          obtain ⟨A1, c1, hv, hkc⟩ := own_form hown
          rw [hv] at hown ⊢
          clear hv
          have OWN := Lib.hid hown
          have HB := Lib.hid hbl
          have hbs := hbl.size
          clear hown hbl
          by_cases hlt : k < n
          · have a1 : 1 + 10 * (k : Int) + 10 ≤ (s.size : Int) := by have := HSZ.out; omega
            have a2 : 1 + 10 * k + 10 ≤ s.size := by have := HSZ.out; omega
            have i0' : (0 : Int) ≤ 1 + 10 * (k : Int) := by omega
            have i1 : (0 : Int) ≤ 1 + 10 * (k : Int) + 1 := by omega
            have i2 : 1 + 10 * (k : Int) < (s.size : Int) := by omega
            have i3 : 1 + 10 * (k : Int) + 1 < (s.size : Int) := by omega
            have t0 : (1 + 10 * (k : Int)).toNat = 1 + 10 * k := by omega
            have t1 : (1 + 10 * (k : Int) + 1).toNat = 1 + 10 * k + 1 := by omega
            have w1 : IntKind.i64.wrap (1 + 10 * (k : Int) + 1) = 1 + 10 * (k : Int) + 1 := IntWalk.i64_in _ (by omega)
            have g0 := byt_get s (1 + 10 * k) (by omega)
            have g1 := byt_get s (1 + 10 * k + 1) (by omega)
            have l1 := byt_lt s (1 + 10 * k + 1)
            have w2 : IntKind.i64.wrap (byt s (1 + 10 * k + 1) : Int) = (byt s (1 + 10 * k + 1) : Int) := IntWalk.i64_in _ (by omega)
            go_wp2_with fail
            go_region
            clear i0' i1 i2 i3 t0 t1 w1 w2 g0 g1 l1
            go_wp2_with fail
            go_loopw [7] (fun i wr => ∃ r : Nat, r ≤ 8 ∧ i = .int .i64 (7 - (r : Int)) ∧ Blk wr wo.heap.size 24 #[.int .u8 (byt s (1 + 10 * k) : Int), .int .i64 (byt s (1 + 10 * k + 1) : Int), .int .u64 (maskDn s (1 + 10 * k + 2) r : Int)] ∧ Below wo.heap.size wo wr) (fun i _ => (intOf i + 1).toNat)
            case atStart =>
              refine ⟨0, by omega, rfl, ?_, ?_⟩
              · exact (Blk.new wo _ _).drew
              · exact (balloc (Below.refl _ wo) _).drew
            case round =>
              obtain ⟨r, hr, rfl, hX, hb⟩ := hrel
              by_cases hlt8 : r < 8
              · obtain ⟨c0, c1, c2⟩ := hX.c3
                have f2 := hX.frozen 2
                have HX := Lib.hid hX
                have HB2 := Lib.hid hb
                have hr7 : (0 : Int) ≤ 7 - (r : Int) := by omega
                have i0' : (0 : Int) ≤ 1 + 10 * (k : Int) + 2 + (7 - (r : Int)) := by omega
                have i2 : 1 + 10 * (k : Int) + 2 + (7 - (r : Int)) < (s.size : Int) := by omega
                have t0 : (1 + 10 * (k : Int) + 2 + (7 - (r : Int))).toNat = 1 + 10 * k + 2 + (7 - r) := by omega
                have w1 : IntKind.i64.wrap (1 + 10 * (k : Int) + 2) = 1 + 10 * (k : Int) + 2 := IntWalk.i64_in _ (by omega)
                have w2 : IntKind.i64.wrap (1 + 10 * (k : Int) + 2 + (7 - (r : Int))) = 1 + 10 * (k : Int) + 2 + (7 - (r : Int)) := IntWalk.i64_in _ (by omega)
                have g0 := byt_get s (1 + 10 * k + 2 + (7 - r)) (by omega)
                clear hX hb
                go_wp2_with fail
                go_region
                clear i0' i2 t0 w1 w2 g0
                go_wp2_with fail
                go_roundw
                case rel =>
                  refine ⟨r + 1, by omega, by go_num, ?_, ?_⟩
                  · rw [dn_step s _ r hlt8]
                    have := HX.out.set_ 2 (.int .u64 (maskDn s (1 + 10 * k + 2) (r + 1) : Int))
                    exact this.drew
                  · exact (HB2.out.setCell (p := ⟨wo.heap.size, 2, none⟩) (Nat.le_refl _) _).drew
                case measure => simp [intOf]; omega
              · obtain rfl : r = 8 := by omega
                have HBX := Lib.hid hb
                have OWNX := Lib.hid (own_nx OWN.out hb)
                have hw := tyAt_ok s k
                have HT := Lib.hid (tysAt_succ s k)
                have HM := Lib.hid (show tyAt s k ∈ tysAt s n by simp [tysAt]; exact ⟨k, hlt, rfl⟩)
                have HE0 := Lib.hid (show tyAt s k = ((byt s (1 + 10 * k) : Int), (byt s (1 + 10 * k + 1) : Int), maskUp s (1 + 10 * k + 2) 8) from rfl)
                rw [HE0.out] at hw HT HM
                rw [maskDn_up] at hX
                generalize (byt s (1 + 10 * k) : Int) = t1 at *
                generalize (byt s (1 + 10 * k + 1) : Int) = t2 at *
                generalize maskUp s (1 + 10 * k + 2) 8 = t3 at *
                obtain ⟨c0, c1, c2⟩ := hX.c3
                have HC := Lib.hid (rmay_any t1 t2 t3 wr ⟨hw.k0, hw.k1⟩ ⟨hw.w0, hw.w1⟩ hw.m1)
                have HX := Lib.hid hX
                have HBW := Lib.hid (bnext HB.out hb)
                have hsz := HBW.out.size
                clear hX hb hw HE0
                cases ho : okT t1 t2 t3
                · have HO := Lib.hid ho
                  have HZ := Lib.hid (show rdOk s = false by
                    have : newE [] (tysAt s n) ≠ 0 := by
                      intro e
                      have := ((newE_zero _ _).1 e).1 _ HM.out
                      rw [ho] at this
                      cases this
                    simp [rdOk, ← HN.out, this])
                  clear ho
                  go_wp2_with fail
                  refine HC.out.mono ?_
                  rintro e w2 ⟨rfl, hb2⟩
                  rw [HO.out]
                  have HB3 := Lib.hid (bnext HBW.out hb2)
                  clear hb2
                  go_wp2_with fail
                  go_ret2
                  exact givesReadR_no HZ.out HB3.out
                · have HO := Lib.hid ho
                  clear ho
                  go_wp2_with fail
                  refine HC.out.mono ?_
                  rintro e w2 ⟨rfl, hb2⟩
                  rw [HO.out]
                  have HB3 := Lib.hid (bnext HBW.out hb2)
                  have OWN2 := Lib.hid (own_nx OWNX.out hb2)
                  obtain ⟨e0, e1, e2⟩ := (HX.out.nx hb2).c3
                  have hsz3 := HB3.out.size
                  clear hb2 c0 c1 c2
                  go_wp2_with (at_builtin; refine wpList_append_any _ rfl (.tmp 61) (.tmp 63) 69 rfl w.heap.size 24 i0 (.agg #[.int .u8 0, .int .i64 0, .int .u64 0]) 3 24 Try.underlying69 HII.out Z0.out Z1.out Z2.out rfl (by decide) _ k ((tysAt s k).flatMap tyC) rfl (OWN2.out.alloc _) (w2.heap.size + 1) (some ⟨w2.heap.size, 0, none⟩) 1 1 (tyC (t1, t2, t3)) rfl (ty_new w2 _ t1 t2 t3 rfl (by omega)) (tyC_one t1 t2 t3) (by unfold maxLen; omega) (by omega) (by simp; omega) ?_)
                  intro v3 w3 hown3 hgr3 hat3
                  have HB4 := Lib.hid ((HB3.out.alloc hsz3 _).grown hgr3 (by simp; omega) (fun g e => (OWN2.out.lt g e).1))
                  have OWN3 := Lib.hid hown3
                  clear hown3 hgr3 hat3 e0 e1 e2
                  go_wp2_with fail
                  go_roundw
                  case rel =>
                    refine ⟨k + 1, by omega, by go_num, ?_, HB4.out, Lib.hid ?_⟩
                    · rw [HT.out, List.flatMap_append]
                      simpa using OWN3.out
                    · rw [HT.out]
                      intro t ht
                      rcases List.mem_append.1 ht with ht | ht
                      · exact HOK.out t ht
                      · rw [List.mem_singleton.1 ht]; exact HO.out
                  case measure => simp [intOf]; omega
          · have a1 : (s.size : Int) ≤ 1 + 10 * (k : Int) := by have := HSZ.out; omega
            obtain rfl : k = n := by omega
            go_wp2_with fail
            go_ret2
            have hz : rdOk s = true := by
              have : newE [] (tysAt s k) = 0 := (newE_zero _ _).2 ⟨HOK.out, .inr (by simp [tysAt_len]; exact h64')⟩
              simp [rdOk, ← HN.out, this]
              exact HSZ.out
            refine ⟨A1, k, c1, by rw [hz]; rfl, ?_, ?_, hkc, HB.out⟩
            · rw [hz, ← HN.out]; exact Reads.of_own OWN.out
            · rw [hz, ← HN.out]; simp [tysAt_len]
    · have t1 : ((s.size : Int) != 1 + 10 * (byt s 0 : Int)) = true := by simp; omega
      have HZ := Lib.hid (show rdOk s = false by simp [rdOk, h1])
      clear h1
      go_enter Try.func50, Try.ntmps50
      go_wp2_with fail
      go_ret2
      exact givesReadR_no HZ.out (Below.refl _ _)
end Go.Proofs.Ytehicgndccnopaa
