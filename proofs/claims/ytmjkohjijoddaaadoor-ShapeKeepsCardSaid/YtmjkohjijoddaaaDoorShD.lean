/- Shapes: Of. -/
import Derived.Test.YtmjkohjijoddaaaDoorShC
namespace Go.Proofs.YtmjkohjijoddaaaDoor
open Go.RowKit
set_option linter.unusedVariables false
set_option linter.unusedSimpArgs false

/-- A view: its struct in block vb. -/
def IsVw (w : World) (vb bs : Nat) (g tg ty ln sz : Int) (x : Ty) : Prop :=
  Blk w vb 96 #[.pointer (some ⟨bs, 0, none⟩), .int .i64 g, .int .u8 tg, .int .i64 ty, .int .i64 ln, .int .i64 sz, .int .u8 x.1, .int .i64 x.2.1, .int .u64 (x.2.2 : Int)]

/-- The error of Of. -/
def ofvE (ts : List Ty) (ws : List Int) (g : Int) : Int :=
  if hdE ws g = 0 then (if hdX dT ws g = 1 ∧ fitV (szE ts (hdX dY ws g) (hdX dL ws g)) (szG ts (hdX dY ws g) (hdX dL ws g)) (hdX dT ws g) (hdX dY ws g) (hdX dL ws g) (hdX dS ws g) = 0 ∧ hdX dS ws g ≤ grN ws - g then 0 else 8) else hdE ws g

def GivesVw (bs : Nat) (ts : List Ty) (ws : List Int) (g : Int) (w : World) (e : Ending) (w' : World) : Prop :=
  ((ofvE ts ws g ≠ 0 ∧ e = .returned (.tuple #[.pointer none, .int .i64 (ofvE ts ws g)])) ∨
   (ofvE ts ws g = 0 ∧ ∃ vb, e = .returned (.tuple #[.pointer (some ⟨vb, 0, none⟩), .int .i64 0]) ∧ IsVw w' vb bs g (hdX dT ws g) (hdX dY ws g) (hdX dL ws g) (hdX dS ws g) (getT ts (hdX dY ws g)) ∧ w.heap.size ≤ vb)) ∧ Below w.heap.size w w'

theorem hdY_bd (ws : List Int) (g : Int) : -9223372036854775808 ≤ hdX dY ws g ∧ hdX dY ws g ≤ 9223372036854775807 := by
  unfold hdX dY
  split
  · split <;> omega
  · omega

section
variable (w : World) (bs br : Nat) (ws : List Int) (rs : List Value) (c : Nat) (h : IsAr w bs br ws rs c) (B tb tg : Nat) (v : Value) (ts : List Ty) (ht : IsTb w B tb tg v ts) (hok : ∀ t ∈ ts, OkW t) (hF : Flds w)
include h ht hok hF

set_option maxRecDepth 100000 in
set_option maxHeartbeats 4000000 in
theorem shOf_any (hw : WdsOk ws) (g : Int) (g0 : -9223372036854775808 ≤ g) (g1 : g ≤ 9223372036854775807) :
    Calls Tryd.prog 23 #[.pointer (some ⟨bs, 0, none⟩), .pointer (some ⟨tb, 0, none⟩), .int .i64 g] w (GivesVw bs ts ws g w) := by
  have HI := Lib.hid h
  have HF := Lib.hid hF
  have HT := Lib.hid ht
  have HK := Lib.hid hok
  have HG := Lib.hid (fun W (hW : IsAr W bs br ws rs c) => granules_q W bs br ws rs c hW)
  have HH := Lib.hid (shHead_any w bs br ws rs c h hw hF g g0 g1)
  have hL := h.hi
  obtain ⟨y0, y1⟩ := hdY_bd ws g
  have hGb : 0 ≤ grN ws ∧ grN ws ≤ 32768 := by unfold grN; omega
  have hgin : hdE ws g = 0 → 0 ≤ g ∧ g < grN ws := by
    intro he
    unfold hdE at he
    cases hi : hdIn ws g
    · rw [hi] at he; cases he
    · simpa [hdIn] using hi
  have HV := Lib.hid (show GivesVw bs ts ws g w = GivesVw bs ts ws g w from rfl)
  have hv0 : ∀ e w', ofvE ts ws g ≠ 0 → e = .returned (.tuple #[.pointer none, .int .i64 (ofvE ts ws g)]) → Below w.heap.size w w' → GivesVw bs ts ws g w e w' := fun e w' a b c => ⟨.inl ⟨a, b⟩, c⟩
  have hv1 : ∀ e w' vb, ofvE ts ws g = 0 → e = .returned (.tuple #[.pointer (some ⟨vb, 0, none⟩), .int .i64 0]) → IsVw w' vb bs g (hdX dT ws g) (hdX dY ws g) (hdX dL ws g) (hdX dS ws g) (getT ts (hdX dY ws g)) → w.heap.size ≤ vb → Below w.heap.size w w' → GivesVw bs ts ws g w e w' := fun e w' vb a b c d f => ⟨.inr ⟨a, vb, b, c, d⟩, f⟩
  have hof : ofvE ts ws g = if hdE ws g = 0 then (if hdX dT ws g = 1 ∧ fitV (szE ts (hdX dY ws g) (hdX dL ws g)) (szG ts (hdX dY ws g) (hdX dL ws g)) (hdX dT ws g) (hdX dY ws g) (hdX dL ws g) (hdX dS ws g) = 0 ∧ hdX dS ws g ≤ grN ws - g then 0 else 8) else hdE ws g := rfl
  generalize GivesVw bs ts ws g w = GV at *
  generalize ofvE ts ws g = OE at *
  generalize hdX dT ws g = T at *
  generalize hdX dY ws g = Y at *
  generalize hdX dL ws g = L at *
  generalize hdX dS ws g = S at *
  generalize hdE ws g = E at *
  have HF1 := Lib.hid (fun W (hW : IsTb W B tb tg v ts) (hF : Flds W) => headFits_any W B tb tg v ts hW hok hF T Y L S y0 y1)
  have HGt := Lib.hid (fun W (hW : IsTb W B tb tg v ts) => get_any W B tb tg v ts hW Y y0 y1)
  generalize fitV (szE ts Y L) (szG ts Y L) T Y L S = F at *
  clear hF ht hok h hw HV y0 y1
  have V0 := Lib.hid hv0
  have V1 := Lib.hid hv1
  clear hv0 hv1
  generalize getT ts Y = X at *
  obtain ⟨xk, xw, xm⟩ := X
  try dsimp only at HGt
  try dsimp only at V1
  generalize grN ws = G at *
  by_cases hE : E = 0
  · subst hE
    obtain ⟨gi0, gi1⟩ := hgin rfl
    rw [if_pos rfl] at hof
    have hw4 : wrap64 (G - g) = G - g := by simp [wrap64]; omega
    have hw5 : IntKind.i64.wrap (G - g) = G - g := by simp [IntKind.wrap, IntKind.signed, IntKind.bits]; omega
    have hcs : T ≠ 1 ∨ (T = 1 ∧ F ≠ 0) ∨ (T = 1 ∧ F = 0 ∧ G - g < S) ∨ (T = 1 ∧ F = 0 ∧ S ≤ G - g) := by omega
    go_enter Tryd.func23, Tryd.ntmps23
    go_wp2_with fail
    refine HH.out.mono ?_
    rintro e w1 ⟨rfl, hb⟩
    have J1 := Lib.hid ((HI.out.nx hb).alloc (.cells #[.int .u8 T, .int .i64 Y, .int .i64 L, .int .i64 S] 23))
    have K1 := Lib.hid ((HT.out.nx hb).nx (balloc (Below.refl w1.heap.size w1) (.cells #[.int .u8 T, .int .i64 Y, .int .i64 L, .int .i64 S] 23)))
    have F1 := Lib.hid ((HF.out.nx hb).al (.cells #[.int .u8 T, .int .i64 Y, .int .i64 L, .int .i64 S] 23))
    have B1 := Lib.hid (balloc hb (.cells #[.int .u8 T, .int .i64 Y, .int .i64 L, .int .i64 S] 23))
    have X1 := Lib.hid (Blk.new w1 23 #[.int .u8 T, .int .i64 Y, .int .i64 L, .int .i64 S])
    obtain ⟨c0, c1, c2, c3⟩ := X1.out.c4
    clear hb
    go_wp2_with fail
    refine (HGt.out _ K1.out).mono ?_
    rintro e w2 ⟨rfl, hb⟩
    have J2 := Lib.hid ((J1.out.nx hb).alloc (.cells #[.int .u8 xk, .int .i64 xw, .int .u64 (xm : Int)] 72))
    have K2 := Lib.hid ((K1.out.nx hb).nx (balloc (Below.refl w2.heap.size w2) (.cells #[.int .u8 xk, .int .i64 xw, .int .u64 (xm : Int)] 72)))
    have F2 := Lib.hid ((F1.out.nx hb).al (.cells #[.int .u8 xk, .int .i64 xw, .int .u64 (xm : Int)] 72))
    have B2 := Lib.hid (balloc (bnext B1.out hb) (.cells #[.int .u8 xk, .int .i64 xw, .int .u64 (xm : Int)] 72))
    have X2 := Lib.hid ((X1.out.nx hb).alloc (.cells #[.int .u8 xk, .int .i64 xw, .int .u64 (xm : Int)] 72))
    have Y2 := Lib.hid (Blk.new w2 72 #[.int .u8 xk, .int .i64 xw, .int .u64 (xm : Int)])
    clear hb c0 c1 c2 c3
    obtain ⟨c0, c1, c2, c3⟩ := X2.out.c4
    go_wp2_with fail
    rcases hcs with h1 | ⟨h1, h2⟩ | ⟨h1, h2, h3⟩ | ⟨h1, h2, h3⟩
    · have d1 : (T != 1) = true := by simpa using h1
      rw [if_neg (by intro h; exact h1 h.1)] at hof
      have HO := Lib.hid hof
      clear hof h1
      go_quiet (fail)
      go_wp2_with fail
      exact V0.out _ _ (by rw [HO.out]; decide) (by rw [HO.out]; rfl) (bdrewN B2.out _)
    · subst h1
      have d1 : ((1 : Int) != 1) = false := rfl
      have d2 : (F != 0) = true := by simpa using h2
      rw [if_neg (by intro h; exact h2 h.2.1)] at hof
      have HO := Lib.hid hof
      clear hof h2
      generalize hVd : (w2.alloc (.cells #[.int .u8 xk, .int .i64 xw, .int .u64 (xm : Int)] 72)) = V at *
      have J3 := Lib.hid (J2.out.nx (Below.refl V.heap.size V).drew)
      have K3 := Lib.hid (K2.out.nx (Below.refl V.heap.size V).drew)
      have F3 := Lib.hid (F2.out.nx (Below.refl V.heap.size V).drew)
      have B3 := Lib.hid B2.out.drew
      have X3 := Lib.hid X2.out.drew
      have Y3 := Lib.hid Y2.out.drew
      refine wp_region_any (by kernel_rfl) ?_
      change wpAny _ _ _ _ _ _ _ (World.drew _)
      refine wpAny_take (i := 0) (v := ?_) rfl (by kernel_rfl) (by kernel_rfl) (by kernel_rfl) (fun _ _ _ h => h) (Or.inl ⟨by rfl, ?_⟩) ?_
      rotate_left
      · intro w; go_simp; try (with_reducible rfl)
      refine wpAny_ready (rs := [1]) (by kernel_rfl) (by simp) ?_
      refine AllReady.cons rfl (fun K hK => ?_) AllReady.nil
      go_simp
      refine hK _ _ ?_
      clear hK K
      refine wpAny_take (i := 2) (v := ?_) rfl (by kernel_rfl) (by kernel_rfl) (by kernel_rfl) (fun _ _ _ h => h) (Or.inl ⟨by rfl, ?_⟩) ?_
      rotate_left
      · intro w; go_simp; try (with_reducible rfl)
      refine wpAny_take (i := 3) (v := ?_) rfl (by kernel_rfl) (by kernel_rfl) (by kernel_rfl) (fun _ _ _ h => h) (Or.inl ⟨by rfl, ?_⟩) ?_
      rotate_left
      · intro w; go_simp; try (with_reducible rfl)
      refine wpAny_take (i := 4) (v := ?_) rfl (by kernel_rfl) (by kernel_rfl) (by kernel_rfl) (fun _ _ _ h => h) (Or.inl ⟨by rfl, ?_⟩) ?_
      rotate_left
      · intro w; go_simp; try (with_reducible rfl)
      refine wpAny_ready (rs := [5]) (by kernel_rfl) (by simp) ?_
      refine AllReady.cons rfl (fun K hK => ?_) AllReady.nil
      go_simp
      refine hK _ _ ?_
      clear hK K
      refine wpAny_ready (rs := [6]) (by kernel_rfl) (by simp) ?_
      refine AllReady.cons rfl (fun K hK => ?_) AllReady.nil
      go_simp
      go_wp2_with ((go_at_call 30; refine (HF1.out _ K3.out F3.out).mono ?_; rintro e wa ⟨rfl, hb⟩; have BA := Lib.hid (bnext B3.out hb); have JA := Lib.hid (J3.out.nx hb); have XA := Lib.hid (X3.out.nx hb); have YA := Lib.hid (Y3.out.nx hb); obtain ⟨c0, c1, c2, c3⟩ := XA.out.c4; obtain ⟨e0, e1, e2⟩ := YA.out.c3))
      try (refine hK _ _ ?_)
      try (clear hK K)
      refine wpAny_take (i := 7) (v := ?_) rfl (by kernel_rfl) (by kernel_rfl) (by kernel_rfl) (fun _ _ _ h => h) (Or.inl ⟨by rfl, ?_⟩) ?_
      rotate_left
      · intro w; go_simp; try (with_reducible rfl)
      refine wpAny_take (i := 8) (v := ?_) rfl (by kernel_rfl) (by kernel_rfl) (by kernel_rfl) (fun _ _ _ h => h) (Or.inl ⟨by rfl, ?_⟩) ?_
      rotate_left
      · intro w; go_simp; try (with_reducible rfl)
      refine wpAny_take (i := 9) (v := ?_) rfl (by kernel_rfl) (by kernel_rfl) (by kernel_rfl) (fun _ _ _ h => h) (Or.inl ⟨by rfl, ?_⟩) ?_
      rotate_left
      · intro w; go_simp; try (with_reducible rfl)
      refine wpAny_take (i := 10) (v := undef) rfl (by kernel_rfl) (by kernel_rfl) (by kernel_rfl) (fun _ _ _ h => h) (Or.inr ⟨by rfl, rfl⟩) ?_
      refine wpAny_take (i := 12) (v := undef) rfl (by kernel_rfl) (by kernel_rfl) (by kernel_rfl) (fun _ _ _ h => h) (Or.inr ⟨by rfl, rfl⟩) ?_
      refine wpAny_take (i := 11) (v := undef) rfl (by kernel_rfl) (by kernel_rfl) (by kernel_rfl) (fun _ _ _ h => h) (Or.inr ⟨by rfl, rfl⟩) ?_
      refine wpAny_take (i := 14) (v := undef) rfl (by kernel_rfl) (by kernel_rfl) (by kernel_rfl) (fun _ _ _ h => h) (Or.inr ⟨by rfl, rfl⟩) ?_
      refine wpAny_ready (rs := [13]) (by kernel_rfl) (by simp) ?_
      refine AllReady.cons rfl (fun K hK => ?_) AllReady.nil
      go_simp
      refine hK _ _ ?_
      clear hK K
      refine wpAny_take (i := 15) (v := undef) rfl (by kernel_rfl) (by kernel_rfl) (by kernel_rfl) (fun _ _ _ h => h) (Or.inr ⟨by rfl, rfl⟩) ?_
      refine wpAny_take (i := 16) (v := undef) rfl (by kernel_rfl) (by kernel_rfl) (by kernel_rfl) (fun _ _ _ h => h) (Or.inr ⟨by rfl, rfl⟩) ?_
      refine wpAny_take (i := 17) (v := ?_) rfl (by kernel_rfl) (by kernel_rfl) (by kernel_rfl) (fun _ _ _ h => h) (Or.inl ⟨by rfl, ?_⟩) ?_
      rotate_left
      · intro w; go_simp; try (with_reducible rfl)
      refine wpAny_done (by kernel_rfl) ?_ _
      all_goals
        go_wp2_with fail
        exact V0.out _ _ (by rw [HO.out]; decide) (by rw [HO.out]; rfl) BA.out
    · subst h1
      subst h2
      have d1 : ((1 : Int) != 1) = false := rfl
      have d2 : ((0 : Int) != 0) = false := rfl
      have d3 : decide (G - g < S) = true := by simpa using h3
      rw [if_neg (by intro h; omega)] at hof
      have HO := Lib.hid hof
      clear hof h3
      generalize hVd : (w2.alloc (.cells #[.int .u8 xk, .int .i64 xw, .int .u64 (xm : Int)] 72)) = V at *
      have J3 := Lib.hid (J2.out.nx (Below.refl V.heap.size V).drew)
      have K3 := Lib.hid (K2.out.nx (Below.refl V.heap.size V).drew)
      have F3 := Lib.hid (F2.out.nx (Below.refl V.heap.size V).drew)
      have B3 := Lib.hid B2.out.drew
      have X3 := Lib.hid X2.out.drew
      have Y3 := Lib.hid Y2.out.drew
      go_region_held3 (fun w' => w'.cell? ⟨w1.heap.size, 0, none⟩ = some (.int .u8 1) ∧ w'.cell? ⟨w1.heap.size, 1, none⟩ = some (.int .i64 Y) ∧ w'.cell? ⟨w1.heap.size, 2, none⟩ = some (.int .i64 L) ∧ w'.cell? ⟨w1.heap.size, 3, none⟩ = some (.int .i64 S)) (go_keep)
        (first | (go_at_call 30; refine (HF1.out _ K3.out F3.out).mono ?_; rintro e wa ⟨rfl, hb⟩; have BA := Lib.hid (bnext B3.out hb); have JA := Lib.hid (J3.out.nx hb); have XA := Lib.hid (X3.out.nx hb); have YA := Lib.hid (Y3.out.nx hb); obtain ⟨c0, c1, c2, c3⟩ := XA.out.c4; obtain ⟨e0, e1, e2⟩ := YA.out.c3) | (go_at_call 51; refine (HG.out _ (by first | exact JA.out | exact J3.out)).mono ?_; rintro e wg ⟨rfl, rfl⟩))
      all_goals
        go_wp2_with fail
        exact V0.out _ _ (by rw [HO.out]; decide) (by rw [HO.out]; rfl) BA.out
    · subst h1
      subst h2
      have d1 : ((1 : Int) != 1) = false := rfl
      have d2 : ((0 : Int) != 0) = false := rfl
      have d3 : decide (G - g < S) = false := by simpa using h3
      rw [if_pos ⟨rfl, rfl, h3⟩] at hof
      have HO := Lib.hid hof
      clear hof h3
      generalize hVd : (w2.alloc (.cells #[.int .u8 xk, .int .i64 xw, .int .u64 (xm : Int)] 72)) = V at *
      have J3 := Lib.hid (J2.out.nx (Below.refl V.heap.size V).drew)
      have K3 := Lib.hid (K2.out.nx (Below.refl V.heap.size V).drew)
      have F3 := Lib.hid (F2.out.nx (Below.refl V.heap.size V).drew)
      have B3 := Lib.hid B2.out.drew
      have X3 := Lib.hid X2.out.drew
      have Y3 := Lib.hid Y2.out.drew
      go_region_held3 (fun w' => w'.cell? ⟨w1.heap.size, 0, none⟩ = some (.int .u8 1) ∧ w'.cell? ⟨w1.heap.size, 1, none⟩ = some (.int .i64 Y) ∧ w'.cell? ⟨w1.heap.size, 2, none⟩ = some (.int .i64 L) ∧ w'.cell? ⟨w1.heap.size, 3, none⟩ = some (.int .i64 S)) (go_keep)
        (first | (go_at_call 30; refine (HF1.out _ K3.out F3.out).mono ?_; rintro e wa ⟨rfl, hb⟩; have BA := Lib.hid (bnext B3.out hb); have JA := Lib.hid (J3.out.nx hb); have XA := Lib.hid (X3.out.nx hb); have YA := Lib.hid (Y3.out.nx hb); obtain ⟨c0, c1, c2, c3⟩ := XA.out.c4; obtain ⟨e0, e1, e2⟩ := YA.out.c3) | (go_at_call 51; refine (HG.out _ (by first | exact JA.out | exact J3.out)).mono ?_; rintro e wg ⟨rfl, rfl⟩))
      all_goals
        go_wp2_with fail
        exact V1.out _ _ _ HO.out rfl (Blk.new wg _ _) BA.out.size (balloc BA.out _)
  · have hne : (E != 0) = true := by simpa using hE
    rw [if_neg hE] at hof
    have HO := Lib.hid hof
    have HE := Lib.hid hE
    clear hof hE hgin
    go_enter Tryd.func23, Tryd.ntmps23
    go_wp2_with fail
    refine HH.out.mono ?_
    rintro e w1 ⟨rfl, hb⟩
    go_wp2_with fail
    exact V0.out _ _ (by rw [HO.out]; exact HE.out) (by rw [HO.out]; rfl) (balloc hb _)
end
end Go.Proofs.YtmjkohjijoddaaaDoor
