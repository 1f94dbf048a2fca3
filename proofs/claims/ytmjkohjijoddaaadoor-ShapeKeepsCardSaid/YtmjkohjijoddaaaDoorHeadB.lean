/- head.Encode and its closure. -/
import Derived.Test.YtmjkohjijoddaaaDoorHeadA
import Derived.Laws.Bits64b
namespace Go.Proofs.YtmjkohjijoddaaaDoor
open Go.RowKit
set_option linter.unusedVariables false
set_option linter.unusedSimpArgs false

theorem or_add {a x v : Nat} (hx : x < 2 ^ a) (hv : v * 2 ^ a < 18446744073709551616) (hx2 : x < 18446744073709551616) :
    bits .or .u64 (x : Int) ((v * 2 ^ a : Nat) : Int) = ((x + v * 2 ^ a : Nat) : Int) := by
  rw [bits_or_u64_nat x (v * 2 ^ a) hx2 hv, Nat.or_comm, Nat.mul_comm v, ← Nat.two_pow_add_eq_or_of_lt hx, Nat.add_comm]

theorem wrapu (v : Int) (h0 : 0 ≤ v) (h1 : v < 18446744073709551616) : IntKind.u64.wrap v = v := by
  simp [IntKind.wrap, IntKind.signed, IntKind.bits]; omega

/-- What stands while Encode lays the fields: the header's box, the word's cell. -/
structure St (w w' : World) (b g : Nat) (tg ty ln sz : Int) (x : Nat) : Prop where
  b0 : w'.cell? ⟨b, 0, none⟩ = some (.int .u8 tg)
  b1 : w'.cell? ⟨b, 1, none⟩ = some (.int .i64 ty)
  b2 : w'.cell? ⟨b, 2, none⟩ = some (.int .i64 ln)
  b3 : w'.cell? ⟨b, 3, none⟩ = some (.int .i64 sz)
  c : w'.cell? ⟨g, 0, none⟩ = some (.int .u64 (x : Int))
  fr : w'.frozen? ⟨g, 0, none⟩ = false
  f : Flds w'
  bl : Below w.heap.size w w'
  ne : b ≠ g
  lo : w.heap.size ≤ g

theorem St.step {w w' : World} {b g : Nat} {tg ty ln sz : Int} {x y n : Nat} (h : St w w' b g tg ty ln sz x) (hp : 0 < w.heap.size) :
    St w ((w'.setCell ⟨g, 0, none⟩ (.int .u64 (y : Int))).drewN n) b g tg ty ln sz y := by
  have ho : ∀ q : Addr, q.block ≠ g → ((w'.setCell ⟨g, 0, none⟩ (.int .u64 (y : Int))).drewN n).cell? q = w'.cell? q := fun q hq => World.cell?_setCell_other w' ⟨g, 0, none⟩ q _ (fun e => hq (by rw [← e]))
  have hlo := h.lo
  refine ⟨(ho _ h.ne).trans h.b0, (ho _ h.ne).trans h.b1, (ho _ h.ne).trans h.b2, (ho _ h.ne).trans h.b3, ?_, ?_, ?_, ?_, h.ne, h.lo⟩
  · exact World.cell?_setCell_same w' _ _ h.c
  · exact (World.frozen?_setCell w' _ _ _).trans h.fr
  · exact h.f.keep (by have := h.f.pos; simpa [World.setCell, World.drewN] using this) fun o => ho _ (by show 0 ≠ g; omega)
  · exact bdrewN (h.bl.setCell (by exact h.lo) _) n

theorem lay_any (f : Int) (a : Nat) (hf : (f = 0 ∧ a = 0) ∨ (f = 1 ∧ a = 2) ∨ (f = 3 ∧ a = 16) ∨ (f = 4 ∧ a = 40)) (x v : Nat) (hx : x < 2 ^ a) (hv : v * 2 ^ a < 18446744073709551616)
    (w0 w : World) (b g : Nat) (tg ty ln sz : Int) (h : St w0 w b g tg ty ln sz x) (hp : 0 < w0.heap.size) :
    Calls Tryd.prog 44 #[.int .i64 f, .int .i64 (v : Int), .pointer (some ⟨g, 0, none⟩)] w fun e w' => e = .returned (.tuple #[]) ∧ St w0 w' b g tg ty ln sz (x + v * 2 ^ a) := by
  have hx' : x < 18446744073709551616 := by rcases hf with ⟨_, rfl⟩ | ⟨_, rfl⟩ | ⟨_, rfl⟩ | ⟨_, rfl⟩ <;> omega
  have hs := Lib.hid (fun n => h.step (y := x + v * 2 ^ a) (n := n) hp)
  have ho := Lib.hid (or_add hx hv hx')
  have h0 := h.f.a0
  have h1 := h.f.a1
  have h3 := h.f.a3
  have h4 := h.f.a4
  have hc := h.c
  have hfr := h.fr
  have hw : IntKind.u64.wrap (v : Int) = v := wrapu v (by omega) (by rcases hf with ⟨_, rfl⟩ | ⟨_, rfl⟩ | ⟨_, rfl⟩ | ⟨_, rfl⟩ <;> omega)
  clear h
  rcases hf with ⟨rfl, rfl⟩ | ⟨rfl, rfl⟩ | ⟨rfl, rfl⟩ | ⟨rfl, rfl⟩
  all_goals
    go_enter Tryd.func44, Tryd.ntmps44
    go_wp2
    go_region
    go_wp2
    go_end0
  all_goals refine ⟨rfl, ?_⟩
  · rw [show bits .or .u64 (x : Int) (v : Int) = ((x + v * 2 ^ 0 : Nat) : Int) by rw [← ho.out]; congr 1; omega]; exact hs.out 1
  · rw [show bits .or .u64 (x : Int) ((v : Int) * 4) = ((x + v * 2 ^ 2 : Nat) : Int) by rw [← ho.out]; congr 1]; exact hs.out 1
  · rw [show bits .or .u64 (x : Int) ((v : Int) * 65536) = ((x + v * 2 ^ 16 : Nat) : Int) by rw [← ho.out]; congr 1]; exact hs.out 1
  · rw [show bits .or .u64 (x : Int) ((v : Int) * 1099511627776) = ((x + v * 2 ^ 40 : Nat) : Int) by rw [← ho.out]; congr 1]; exact hs.out 1

/-- The word of a header that may be. -/
def encW (tg ty ln sz : Int) : Int := if okH tg ty ln sz then tg + 4 * ty + 65536 * ln + 1099511627776 * sz else 0

set_option maxHeartbeats 1000000 in
theorem headEncode_any (tg ty ln sz : Int) (w : World) (hF : Flds w) :
    Calls Tryd.prog 10 #[.agg #[.int .u8 tg, .int .i64 ty, .int .i64 ln, .int .i64 sz]] w fun e w' => e = .returned (.tuple #[.int .u64 (encW tg ty ln sz), .int .i64 (chkH tg ty ln sz)]) ∧ Below w.heap.size w w' := by
  cases hok : okH tg ty ln sz
  · have he : encW tg ty ln sz = 0 := by simp [encW, hok]
    have hc := chkH_no hok
    go_enter Tryd.func10, Tryd.ntmps10
    go_wp2_with fail
    refine (headCheck_any tg ty ln sz _ (hF.below ((Below.refl _ _).alloc (Nat.le_refl _) _) hF.pos)).mono ?_
    rintro e w1 ⟨rfl, hb⟩
    rw [hc]
    go_wp2_with fail
    go_ret2
    rw [he, hc]
    exact ⟨rfl, (((Below.refl _ _).alloc (Nat.le_refl _) _).trans (hb.mono (by simp)))⟩
  · obtain ⟨t, rfl⟩ : ∃ n : Nat, tg = n := ⟨tg.toNat, by simp [okH] at hok; omega⟩
    obtain ⟨y, rfl⟩ : ∃ n : Nat, ty = n := ⟨ty.toNat, by simp [okH] at hok; omega⟩
    obtain ⟨l, rfl⟩ : ∃ n : Nat, ln = n := ⟨ln.toNat, by simp [okH] at hok; omega⟩
    obtain ⟨s, rfl⟩ : ∃ n : Nat, sz = n := ⟨sz.toNat, by simp [okH] at hok; omega⟩
    have hc := chkH_yes hok
    have he : encW t y l s = (t : Int) + y * 4 + l * 65536 + s * 1099511627776 := by simp [encW, hok]; omega
    have hb4 : t < 4 ∧ y < 4096 ∧ l < 16777216 ∧ s < 16777216 := by simp [okH] at hok; omega
    have hwt : wrap64 (t : Int) = t := by simp [wrap64]; omega
    have HE := Lib.hid he
    have HB := Lib.hid hb4
    clear he hb4 hok
    go_enter Tryd.func10, Tryd.ntmps10
    go_wp2_with fail
    refine (headCheck_any t y l s _ (hF.below ((Below.refl _ _).alloc (Nat.le_refl _) _) hF.pos)).mono ?_
    rintro e w1 ⟨rfl, hb⟩
    have hz : w.heap.size < w1.heap.size := by have := hb.size; simp at this; omega
    have e0 : w1.cell? ⟨w.heap.size, 0, none⟩ = some (.int .u8 (t : Int)) := (hb.cell (p := ⟨w.heap.size, 0, none⟩) (by simp)).trans (by simp [World.cell?_alloc_at])
    have e1 : w1.cell? ⟨w.heap.size, 1, none⟩ = some (.int .i64 (y : Int)) := (hb.cell (p := ⟨w.heap.size, 1, none⟩) (by simp)).trans (by simp [World.cell?_alloc_at])
    have e2 : w1.cell? ⟨w.heap.size, 2, none⟩ = some (.int .i64 (l : Int)) := (hb.cell (p := ⟨w.heap.size, 2, none⟩) (by simp)).trans (by simp [World.cell?_alloc_at])
    have e3 : w1.cell? ⟨w.heap.size, 3, none⟩ = some (.int .i64 (s : Int)) := (hb.cell (p := ⟨w.heap.size, 3, none⟩) (by simp)).trans (by simp [World.cell?_alloc_at])
    have hB : Below w.heap.size w w1 := ((Below.refl _ _).alloc (Nat.le_refl _) _).trans (hb.mono (by simp))
    have k0 := fun (o : Obj) => (World.cell?_alloc_lt w1 o ⟨w.heap.size, 0, none⟩ hz).trans e0
    have k1 := fun (o : Obj) => (World.cell?_alloc_lt w1 o ⟨w.heap.size, 1, none⟩ hz).trans e1
    have k2 := fun (o : Obj) => (World.cell?_alloc_lt w1 o ⟨w.heap.size, 2, none⟩ hz).trans e2
    have k3 := fun (o : Obj) => (World.cell?_alloc_lt w1 o ⟨w.heap.size, 3, none⟩ hz).trans e3
    have hs : Hid (St w (w1.alloc (.cells #[.int .u64 0] 24)) w.heap.size w1.heap.size t y l s 0) :=
      Lib.hid ⟨k0 _, k1 _, k2 _, k3 _, by simp [World.cell?_alloc_at], (Blk.new w1 _ _).frozen 0, hF.below (hB.alloc (by omega) _) hF.pos, hB.alloc (by omega) _, by omega, by omega⟩
    have hp := hF.pos
    clear hb hB hF
    rw [hc]
    go_wp2_with fail
    refine (lay_any 0 0 (by omega) 0 t (by omega) (by have := HB.out; omega) w _ _ _ _ _ _ _ hs.out hp).mono ?_
    rintro e w2 ⟨rfl, hs2⟩
    have c1 := hs2.b1
    go_wp2_with fail
    refine (lay_any 1 2 (by omega) _ y (by have := HB.out; omega) (by have := HB.out; omega) w _ _ _ _ _ _ _ hs2 hp).mono ?_
    rintro e w3 ⟨rfl, hs3⟩
    have c2 := hs3.b2
    go_wp2_with fail
    refine (lay_any 3 16 (by omega) _ l (by have := HB.out; omega) (by have := HB.out; omega) w _ _ _ _ _ _ _ hs3 hp).mono ?_
    rintro e w4 ⟨rfl, hs4⟩
    have c3 := hs4.b3
    go_wp2_with fail
    refine (lay_any 4 40 (by omega) _ s (by have := HB.out; omega) (by have := HB.out; omega) w _ _ _ _ _ _ _ hs4 hp).mono ?_
    rintro e w5 ⟨rfl, hs5⟩
    have c4 := hs5.c
    go_wp2_with fail
    go_ret2
    rw [HE.out, hc]
    exact ⟨rfl, hs5.bl⟩
end Go.Proofs.YtmjkohjijoddaaaDoor
