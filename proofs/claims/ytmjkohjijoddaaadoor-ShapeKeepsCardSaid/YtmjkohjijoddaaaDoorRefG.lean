/- The document's answer of layer 6: Add, New, Get, Size. -/
import Derived.Test.YtmjkohjijoddaaaDoorTableF
import Derived.Test.YtmjkohjijoddaaaDoorRefB
namespace Go.Proofs.YtmjkohjijoddaaaDoor
open Go.RowKit
set_option linter.unusedVariables false
set_option linter.unusedSimpArgs false

/-- A list of types that is given back. -/
def GivesAddR (A0 : Option Addr) (ts : List Ty) (x : Ty) (w : World) (e : Ending) (w' : World) : Prop :=
  ∃ A n c, e = .returned (.tuple #[.slice A n c, .int .i64 (addN ts x), .int .i64 (addE ts x)]) ∧ Reads w' w'.heap.size 3 A n ((addL ts x).flatMap tyC) ∧ (addL ts x).length = n ∧ n ≤ c ∧ Below w.heap.size w w' ∧ ((A = A0 ∧ addL ts x = ts) ∨ ∀ ad, A = some ad → w.heap.size ≤ ad.block)

set_option maxRecDepth 100000 in
set_option maxHeartbeats 2000000 in
theorem radd_any (w : World) (A : Option Addr) (n c : Nat) (ts : List Ty) (hr : Reads w w.heap.size 3 A n (ts.flatMap tyC)) (hl : ts.length = n) (hnc : n ≤ c) (hn : n ≤ 1000000) (k wd : Int) (mk : Nat) (hk : 0 ≤ k ∧ k < 256) (hw : -9223372036854775808 ≤ wd ∧ wd ≤ 9223372036854775807) (hm : mk < 18446744073709551616) :
    Calls Tryd.prog 59 #[.slice A n c, .agg #[.int .u8 k, .int .i64 wd, .int .u64 (mk : Int)]] w (GivesAddR A ts (k, wd, mk) w) := by
  have HC := Lib.hid (rmay_any k wd mk (w.alloc (.cells #[.int .u8 k, .int .i64 wd, .int .u64 (mk : Int)] 72)) hk hw hm)
  have b0 := Blk.new w 72 #[.int .u8 k, .int .i64 wd, .int .u64 (mk : Int)]
  have HR := Lib.hid hr
  have HL := Lib.hid hl
  clear hr hl hk hw hm
  cases ho : okT k wd mk
  · have HE := Lib.hid (show addE ts (k, wd, mk) = 2 by simp [addE, ho])
    have HA := Lib.hid (show addL ts (k, wd, mk) = ts by simp [addL, HE.out])
    have HN := Lib.hid (show addN ts (k, wd, mk) = 0 by simp [addN, HE.out])
    have HO := Lib.hid ho
    clear ho
    go_enter Tryd.func59, Tryd.ntmps59
    go_wp2_with fail
    refine HC.out.mono ?_
    rintro e w1 ⟨rfl, hb⟩
    rw [HO.out]
    have HB := Lib.hid (bnext (balloc (Below.refl _ w) _) hb)
    clear hb
    go_wp2_with fail
    go_ret3
    exact ⟨A, n, c, by rw [HE.out, HN.out]; rfl, by rw [HA.out]; exact (HR.out.below HB.out).more HB.out.size, by rw [HA.out]; exact HL.out, hnc, HB.out, .inl ⟨rfl, HA.out⟩⟩
  · by_cases hf : 64 ≤ ts.length
    · have HE := Lib.hid (show addE ts (k, wd, mk) = 4 by simp [addE, ho, hf])
      have HA := Lib.hid (show addL ts (k, wd, mk) = ts by simp [addL, HE.out])
      have HN := Lib.hid (show addN ts (k, wd, mk) = 0 by simp [addN, HE.out])
      have HO := Lib.hid ho
      have hf' : 64 ≤ n := by rw [← HL.out]; exact hf
      clear ho hf
      go_enter Tryd.func59, Tryd.ntmps59
      go_wp2_with fail
      refine HC.out.mono ?_
      rintro e w1 ⟨rfl, hb⟩
      rw [HO.out]
      have HB := Lib.hid (bnext (balloc (Below.refl _ w) _) hb)
      clear hb
      go_wp2_with fail
      go_ret3
      exact ⟨A, n, c, by rw [HE.out, HN.out]; rfl, by rw [HA.out]; exact (HR.out.below HB.out).more HB.out.size, by rw [HA.out]; exact HL.out, hnc, HB.out, .inl ⟨rfl, HA.out⟩⟩
    · have HE := Lib.hid (show addE ts (k, wd, mk) = 0 by simp [addE, ho, hf])
      have HA := Lib.hid (show addL ts (k, wd, mk) = ts ++ [(k, wd, mk)] by simp [addL, HE.out])
      have HN := Lib.hid (show addN ts (k, wd, mk) = (n : Int) + 1 by simp [addN, HE.out, HL.out])
      have HO := Lib.hid ho
      have hf' : n < 64 := by rw [← HL.out]; omega
      clear ho hf
      obtain ⟨i0, hi, hz0, hz1, hz2⟩ := info_parts Tryd.infoTy
      have HI := Lib.hid hi
      have Z0 := Lib.hid hz0
      have Z1 := Lib.hid hz1
      have Z2 := Lib.hid hz2
      clear hi hz0 hz1 hz2
      go_enter Tryd.func59, Tryd.ntmps59
      go_wp2_with fail
      refine HC.out.mono ?_
      rintro e w1 ⟨rfl, hb⟩
      rw [HO.out]
      have HB := Lib.hid (bnext (balloc (Below.refl _ w) _) hb)
      have b1 := b0.nx hb
      obtain ⟨c0, c1, c2⟩ := b1.c3
      have HR1 := Lib.hid ((HR.out.below HB.out).more HB.out.size)
      have B1 := Lib.hid b1
      clear hb b1 b0
      go_wp2_with (at_builtin; refine wpList_append_any _ rfl (.const (.slice none 0 0)) (.tmp 16) 35 rfl w1.heap.size 72 i0 (.agg #[.int .u8 0, .int .i64 0, .int .u64 0]) 3 24 Tryd.underlying35 HI.out Z0.out Z1.out Z2.out rfl (by decide) (.slice none 0 0) 0 [] rfl (World.ownsRow_nil _ _ _ _) w1.heap.size A n c (ts.flatMap tyC) rfl HR1.out (tysC_one ts) (by unfold maxLen; omega) (by omega) (Nat.le_refl _) ?_)
      intro v2 w2 hown2 hgr2 hat2
      have hb2 : Below w1.heap.size w1 w2 := (Below.refl _ w1).grown hgr2 (Nat.le_refl _) (by simp [Value.ownBlock])
      have e0 := (hb2.cell (p := ⟨w.heap.size, 0, none⟩) B1.out.lt).trans c0
      have e1 := (hb2.cell (p := ⟨w.heap.size, 1, none⟩) B1.out.lt).trans c1
      have e2 := (hb2.cell (p := ⟨w.heap.size, 2, none⟩) B1.out.lt).trans c2
      have HO2 := Lib.hid hown2
      have HB2 := Lib.hid hb2
      clear hown2 hgr2 hat2 hb2 c0 c1 c2
      go_wp2_with (at_builtin; refine wpList_append_any _ rfl (.tmp 18) (.tmp 20) 35 rfl w1.heap.size 72 i0 (.agg #[.int .u8 0, .int .i64 0, .int .u64 0]) 3 24 Tryd.underlying35 HI.out Z0.out Z1.out Z2.out rfl (by decide) v2 n (ts.flatMap tyC) rfl (HO2.out.alloc _) (w2.heap.size + 1) (some ⟨w2.heap.size, 0, none⟩) 1 1 (tyC (k, wd, mk)) rfl (ty_new w2 _ k wd mk rfl (by omega)) (tyC_one k wd mk) (by unfold maxLen; omega) (by omega) (by have := HB2.out.size; simp; omega) ?_)
      intro v3 w3 hown3 hgr3 hat3
      have hb3 : Below w1.heap.size w1 w3 := (HB2.out.alloc HB2.out.size _).grown hgr3 (by have := HB2.out.size; simp; omega) (fun g e => (HO2.out.lt g e).1)
      obtain ⟨A3, c3', hv3, hc3⟩ := own_form hown3
      rw [hv3] at hown3 ⊢
      have HO3 := Lib.hid hown3
      have HB3 := Lib.hid hb3
      clear hown3 hv3 hgr3 hb3
      go_wp2_with fail
      go_ret3
      refine ⟨A3, n + 1, c3', ?_, ?_, ?_, ?_, bnext HB.out HB3.out, .inr fun ad e => ?_⟩
      · rw [HE.out, HN.out]; rfl
      · have := Reads.of_own HO3.out
        rw [HA.out, List.flatMap_append]
        simpa using this
      · rw [HA.out]; simp [HL.out]
      · omega
      · subst e
        have := (HO3.out.lt ad.block rfl).1
        have := HB.out.size
        omega

/-- A list of types, or none. -/
def GivesNewR (ts : List Ty) (w : World) (e : Ending) (w' : World) : Prop :=
  ∃ A n c, e = .returned (.tuple #[.slice A n c, .int .i64 (newE [] ts)]) ∧ Reads w' w'.heap.size 3 A n ((if newE [] ts = 0 then ts else []).flatMap tyC) ∧ (if newE [] ts = 0 then ts else []).length = n ∧ n ≤ c ∧ Below w.heap.size w w' ∧ ∀ ad, A = some ad → w.heap.size ≤ ad.block

theorem addL_len {ts : List Ty} {x : Ty} : (addL ts x).length ≤ ts.length + 1 := by unfold addL; split <;> simp

set_option maxRecDepth 100000 in
set_option maxHeartbeats 2000000 in
theorem rnew_any (w : World) (A : Option Addr) (n c : Nat) (ts : List Ty) (hr : Reads w w.heap.size 3 A n (ts.flatMap tyC)) (hl : ts.length = n) (hok : ∀ t ∈ ts, OkW t) (hn : n ≤ 1000000) :
    Calls Tryd.prog 31 #[.slice A n c] w (GivesNewR ts w) := by
  have HR := Lib.hid hr
  have HL := Lib.hid hl
  have HO := Lib.hid hok
  clear hr hl hok
  go_enter Tryd.func31, Tryd.ntmps31
  go_wp2_with fail
  go_loopw [4, 5] (fun v i wr => ∃ (k : Nat) (A1 : Option Addr) (c1 : Nat), k ≤ n ∧ i = .int .i64 (k : Int) ∧ v = .slice A1 k c1 ∧ Reads wr wr.heap.size 3 A1 k ((ts.take k).flatMap tyC) ∧ k ≤ c1 ∧ Below w.heap.size w wr ∧ Hid (∀ ad, A1 = some ad → w.heap.size ≤ ad.block) ∧ Hid (newE (ts.take k) (ts.drop k) = newE [] ts)) (fun _ i _ => n - (intOf i).toNat)
  case atStart => exact ⟨0, none, 0, by omega, rfl, rfl, by simpa using Reads.none_, Nat.le_refl _, Below.refl _ _, Lib.hid (fun _ e => by cases e), Lib.hid rfl⟩
  case round =>
    obtain ⟨k, A1, c1, hk, rfl, rfl, hR1, hkc, hbl, FAR, HQ⟩ := hrel
    by_cases hlt : k < n
    · obtain ⟨b, o, rfl, hb, d0, d1, d2⟩ := HR.out.ty hlt
      have e0 := (hbl.cell (p := ⟨b, o + k * 3, none⟩) hb).trans d0
      have e1 := (hbl.cell (p := ⟨b, o + k * 3 + 1, none⟩) hb).trans d1
      have e2 := (hbl.cell (p := ⟨b, o + k * 3 + 2, none⟩) hb).trans d2
      have hw := HO.out _ (getD_mem ts k (0, 0, 0) (by rw [HL.out]; exact hlt))
      have HT := Lib.hid (take_getD ts k (0, 0, 0) (by rw [HL.out]; exact hlt))
      have HD := Lib.hid (drop_getD ts k (0, 0, 0) (by rw [HL.out]; exact hlt))
      clear d0 d1 d2
      generalize ts.getD k (0, 0, 0) = t at *
      obtain ⟨t1, t2, t3⟩ := t
      have HA := Lib.hid (radd_any wr A1 k c1 (ts.take k) hR1 (by simp [HL.out]; omega) hkc (by omega) t1 t2 t3 ⟨hw.k0, hw.k1⟩ ⟨hw.w0, hw.w1⟩ hw.m1)
      have HB := Lib.hid hbl
      have hsz := hbl.size
      clear hbl hw hR1
      by_cases hE : addE (ts.take k) (t1, t2, t3) = 0
      · have HE := Lib.hid hE
        have HAL := Lib.hid (show addL (ts.take k) (t1, t2, t3) = ts.take (k + 1) by rw [addL, if_pos hE, ← HT.out])
        clear hE
        go_wp2_with fail
        refine HA.out.mono ?_
        rintro e w2 ⟨A2, n2, c2, rfl, hR2, hn2, hnc2, hb2, hf2⟩
        have FAR2 := Lib.hid (show ∀ ad, A2 = some ad → w.heap.size ≤ ad.block from fun ad e => by
          rcases hf2 with h | h
          · exact FAR.out ad (h.1.symm.trans e)
          · have := h ad e; omega)
        clear hf2
        rw [HE.out]
        rw [HAL.out] at hR2 hn2
        obtain rfl : n2 = k + 1 := by rw [← hn2]; simp [HL.out]; omega
        have HR2 := Lib.hid hR2
        have HB2 := Lib.hid (bnext HB.out hb2)
        clear hR2 hb2 hn2
        go_wp2_with fail
        go_roundw
        case rel =>
          refine ⟨k + 1, A2, c2, by omega, by go_num, rfl, HR2.out, hnc2, HB2.out, FAR2, Lib.hid ?_⟩
          have := HQ.out
          rw [HD.out, newE, if_pos HE.out, ← HT.out] at this
          exact this
        case measure => simp [intOf]; omega
      · have hne : (addE (ts.take k) (t1, t2, t3) != 0) = true := by simpa using hE
        have HE := Lib.hid hE
        clear hE
        generalize hX : addE (ts.take k) (t1, t2, t3) = X at *
        have HX := Lib.hid hX
        clear hX
        go_wp2_with fail
        refine HA.out.mono ?_
        rintro e w2 ⟨A2, n2, c2, rfl, hR2, hn2, hnc2, hb2, _⟩
        rw [HX.out]
        have HB2 := Lib.hid (bnext HB.out hb2)
        clear hR2 hb2 hn2
        go_wp2_with fail
        go_ret2
        have hq := HQ.out
        rw [HD.out, newE, HX.out, if_neg HE.out] at hq
        have hz : newE [] ts ≠ 0 := by rw [← hq]; exact HE.out
        refine ⟨none, 0, 0, by rw [← hq]; rfl, ?_, ?_, Nat.le_refl _, HB2.out, fun _ e => by cases e⟩
        · rw [if_neg hz]; exact Reads.none_
        · rw [if_neg hz]; rfl
    · obtain rfl : k = n := by omega
      have HR1 := Lib.hid hR1
      have HB := Lib.hid hbl
      clear hR1 hbl
      go_wp2_with fail
      go_ret2
      have hI := HR1.out
      have hq := HQ.out
      rw [List.take_of_length_le (by rw [HL.out]; exact Nat.le_refl _)] at hI hq
      rw [List.drop_of_length_le (by rw [HL.out]; exact Nat.le_refl _), newE] at hq
      refine ⟨A1, k, c1, by rw [← hq]; rfl, ?_, ?_, hkc, HB.out, FAR.out⟩
      · rw [if_pos hq.symm]; exact hI
      · rw [if_pos hq.symm]; exact HL.out

set_option maxHeartbeats 1000000 in
theorem rget_any (w : World) (A : Option Addr) (n c : Nat) (ts : List Ty) (hr : Reads w w.heap.size 3 A n (ts.flatMap tyC)) (hl : ts.length = n) (hn : n ≤ 1000000) (id : Int) (i0 : -9223372036854775808 ≤ id) (i1 : id ≤ 9223372036854775807) :
    Calls Tryd.prog 42 #[.slice A n c, .int .i64 id] w fun e w' =>
      e = .returned (.tuple #[.agg #[.int .u8 (getT ts id).1, .int .i64 (getT ts id).2.1, .int .u64 ((getT ts id).2.2 : Int)], .int .i64 (getE ts id)]) ∧ Below w.heap.size w w' := by
  by_cases hin : 1 ≤ id ∧ id ≤ n
  · have HN := Lib.hid (show inT ts id = true by simp [inT, hin, hl])
    obtain ⟨j, hj⟩ : ∃ j : Nat, id = (j : Int) + 1 := ⟨(id - 1).toNat, by omega⟩
    subst hj
    have hjl : j < n := by omega
    have HG := Lib.hid (show getT ts ((j : Int) + 1) = ts.getD j (0, 0, 0) by simp [getT, HN.out])
    have HE := Lib.hid (show getE ts ((j : Int) + 1) = 0 by simp [getE, HN.out])
    obtain ⟨b, o, rfl, hb, d0, d1, d2⟩ := hr.ty hjl
    clear hr hl hin i0 i1
    generalize ts.getD j (0, 0, 0) = t at *
    obtain ⟨t1, t2, t3⟩ := t
    go_enter Tryd.func42, Tryd.ntmps42
    go_wp2_with fail
    refine bodyPost_ret (v := .tuple #[.agg #[.int .u8 t1, .int .i64 t2, .int .u64 (t3 : Int)], .int .i64 0]) (by simp [results, Tryd.results42, go_sem]) rfl ⟨by rw [HE.out, HG.out], balloc (Below.refl _ w) _⟩
  · have HN := Lib.hid (show inT ts id = false by simp [inT, hl]; omega)
    have HG := Lib.hid (show getT ts id = (0, 0, 0) by simp [getT, HN.out])
    have HE := Lib.hid (show getE ts id = 3 by simp [getE, HN.out])
    clear hr hl
    rcases (by omega : id < 1 ∨ (1 ≤ id ∧ (n : Int) < id)) with h1 | ⟨h1, h2⟩
    all_goals
      clear hin
      go_enter Tryd.func42, Tryd.ntmps42
      go_wp2_with fail
      refine bodyPost_ret (v := .tuple #[.agg #[.int .u8 0, .int .i64 0, .int .u64 0], .int .i64 3]) (by simp [results, Tryd.results42, go_sem]) rfl ⟨by rw [HE.out, HG.out]; rfl, balloc (Below.refl _ w) _⟩

set_option maxHeartbeats 1000000 in
theorem rsizeT_any (w : World) (A : Option Addr) (n c : Nat) (ts : List Ty) (hr : Reads w w.heap.size 3 A n (ts.flatMap tyC)) (hl : ts.length = n) (hok : ∀ t ∈ ts, OkW t) (hn : n ≤ 1000000) (id m : Int) (i0 : -9223372036854775808 ≤ id) (i1 : id ≤ 9223372036854775807) :
    Calls Tryd.prog 60 #[.slice A n c, .int .i64 id, .int .i64 m] w fun e w' => e = .returned (.tuple #[.int .i64 (szG ts id m), .int .i64 (szE ts id m)]) ∧ Below w.heap.size w w' := by
  have HC := Lib.hid (rget_any w A n c ts hr hl hn id i0 i1)
  have hk := getT_ok hok id
  cases hin : inT ts id
  · have HE := Lib.hid (show szE ts id m = 3 by simp [szE, hin])
    have HG := Lib.hid (show szG ts id m = 0 by simp [szG, hin])
    have HF := Lib.hid (show getE ts id = 3 by simp [getE, hin])
    clear hr hl hok i0 i1 hk hin
    generalize getT ts id = t at *
    obtain ⟨t1, t2, t3⟩ := t
    go_enter Tryd.func60, Tryd.ntmps60
    go_wp2_with fail
    refine HC.out.mono ?_
    rintro e w1 ⟨rfl, hb⟩
    rw [HF.out]
    have hB := hb
    clear hb
    go_wp2_with fail
    go_ret2
    rw [HE.out, HG.out]
    exact ⟨rfl, balloc hB _⟩
  · have HE := Lib.hid (show szE ts id m = ofE (getT ts id).1 (getT ts id).2.1 (getT ts id).2.2 m by simp [szE, hin])
    have HG := Lib.hid (show szG ts id m = gS (getT ts id).1 (getT ts id).2.1 (getT ts id).2.2 m by simp [szG, hin])
    have HF := Lib.hid (show getE ts id = 0 by simp [getE, hin])
    have HK := Lib.hid (fun W => rsize_any (getT ts id).1 (getT ts id).2.1 (getT ts id).2.2 m W ⟨hk.k0, hk.k1⟩ ⟨hk.w0, hk.w1⟩ hk.m1)
    clear hr hl hok i0 i1 hk hin
    generalize getT ts id = t at *
    obtain ⟨t1, t2, t3⟩ := t
    go_enter Tryd.func60, Tryd.ntmps60
    go_wp2_with fail
    refine HC.out.mono ?_
    rintro e w1 ⟨rfl, hb⟩
    rw [HF.out]
    have hB := hb
    clear hb
    go_wp2_with fail
    refine (HK.out _).mono ?_
    rintro e w2 ⟨rfl, hb⟩
    have hB2 := bnext (balloc hB _) hb
    clear hb
    go_wp2_with fail
    go_ret2
    rw [HE.out, HG.out]
    exact ⟨rfl, hB2⟩
end Go.Proofs.YtmjkohjijoddaaaDoor
