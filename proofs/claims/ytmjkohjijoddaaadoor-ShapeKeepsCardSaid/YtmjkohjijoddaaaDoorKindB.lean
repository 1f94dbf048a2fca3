/- kind.ways, layout.fixed, row, elems, slots. -/
import Derived.Test.YtmjkohjijoddaaaDoorKindA
import Derived.Maps.Own
import Derived.MapKept
import Derived.WideMake
import Derived.Deep.RegionHeld3
namespace Go.Proofs.YtmjkohjijoddaaaDoor
open Go.RowKit
set_option linter.unusedVariables false
set_option linter.unusedSimpArgs false

def fnV (f : FuncId) : Value := .func (.func f) #[] #[]
/-- The map that kind.ways makes. -/
def wayMap : Array MapEntry := #[⟨.int .u8 1, fnV 81, 0⟩, ⟨.int .u8 2, fnV 82, 1⟩, ⟨.int .u8 3, fnV 83, 2⟩, ⟨.int .u8 4, fnV 82, 3⟩]

theorem alloc_set (w : World) (o o' : Obj) : ({ w.alloc o with heap := (w.alloc o).heap.setIfInBounds w.heap.size o' } : World) = w.alloc o' := by
  have h : (w.heap.push o).setIfInBounds w.heap.size o' = w.heap.push o' := by
    apply Array.ext_getElem?
    intro i
    simp only [Array.getElem?_setIfInBounds, Array.getElem?_push, Array.size_push]
    by_cases hi : w.heap.size = i
    · simp [hi]
    · have h2 : ¬ i = w.heap.size := fun e => hi e.symm
      simp [hi, h2]
  show ({ w with heap := (w.heap.push o).setIfInBounds w.heap.size o' } : World) = _
  rw [h]
  rfl

theorem run_ins (w0 : World) (es : Array MapEntry) (c : Nat) (k : Int) (v : Value) (hf : Instr.findNow (.int .u8) (.int .u8 k) es.toList 0 = some none) :
    (Instr.mapUpdate 125 (.map (some w0.heap.size)) (.int .u8 k) v).run Tryd.prog (w0.alloc (.map es c)) = .ok () (w0.alloc (.map (es.push ⟨.int .u8 k, v, c⟩) (c + 1))) := by
  have hb : (w0.alloc (.map es c)).heap[w0.heap.size]? = some (.map es c) := heap_alloc_new w0 _
  have hc : (Instr.checkKey false 10000 5 (.int .u8 k)).run Tryd.prog (w0.alloc (.map es c)) = .ok () (w0.alloc (.map es c)) := MapKept.run_checkKey (k := .int .u8 k) Tryd.underlying5 (by simp [MapKept.IsKey]) false 9999
  rw [← alloc_set w0 (.map es c) (.map (es.push ⟨.int .u8 k, v, c⟩) (c + 1))]
  simp [Instr.mapUpdate, run_underlying Tryd.underlying125, MapKept.run_getObj_map hb, hc, MapKept.run_findKey Tryd.underlying5 hf, MapKept.run_setObj_map _ hb, Result.andThen]

theorem ways_any (w : World) : Calls Tryd.prog 80 #[] w fun e w' => e = .returned (.map (some w.heap.size)) ∧ w' = w.alloc (.map wayMap 4) := by
  have hmm := fun W => run_makeMap (P := Tryd.prog) 125 W
  have h1 := run_ins w #[] 0 1 (fnV 81) rfl
  have h2 := run_ins w #[⟨.int .u8 1, fnV 81, 0⟩] 1 2 (fnV 82) rfl
  have h3 := run_ins w #[⟨.int .u8 1, fnV 81, 0⟩, ⟨.int .u8 2, fnV 82, 1⟩] 2 3 (fnV 83) rfl
  have h4 := run_ins w #[⟨.int .u8 1, fnV 81, 0⟩, ⟨.int .u8 2, fnV 82, 1⟩, ⟨.int .u8 3, fnV 83, 2⟩] 3 4 (fnV 82) rfl
  simp only [List.push_toArray, List.nil_append, List.cons_append, Nat.reduceAdd, fnV] at h1 h2 h3 h4
  go_enter Tryd.func80, Tryd.ntmps80
  go_wp2
  go_ret
  exact ⟨rfl, rfl⟩

/-- How many slots. -/
def slotsV (k wd n : Int) : Int := if k = 1 then wd else if k = 3 then n * wd else n

theorem fixed_any (k wd mk n : Int) (w : World) : Calls Tryd.prog 81 #[.agg #[.int .u8 k, .int .i64 wd, .int .u64 mk, .int .i64 n]] w fun e w' => e = .returned (.int .i64 wd) ∧ Below w.heap.size w w' := by
  go_enter Tryd.func81, Tryd.ntmps81
  go_wp2
  go_ret
  exact ⟨rfl, (Below.refl _ _).alloc (Nat.le_refl _) _⟩
theorem row_any (k wd mk n : Int) (w : World) : Calls Tryd.prog 82 #[.agg #[.int .u8 k, .int .i64 wd, .int .u64 mk, .int .i64 n]] w fun e w' => e = .returned (.int .i64 n) ∧ Below w.heap.size w w' := by
  go_enter Tryd.func82, Tryd.ntmps82
  go_wp2
  go_ret
  exact ⟨rfl, (Below.refl _ _).alloc (Nat.le_refl _) _⟩
theorem mul_bd {n wd : Int} (h1 : 0 ≤ wd ∧ wd ≤ 64) (h2 : 0 ≤ n ∧ n ≤ 4096) : 0 ≤ n * wd ∧ n * wd ≤ 262144 := by
  refine ⟨Int.mul_nonneg h2.1 h1.1, ?_⟩
  calc n * wd ≤ 4096 * wd := Int.mul_le_mul_of_nonneg_right h2.2 h1.1
    _ ≤ 4096 * 64 := by omega
theorem elems_any (k wd mk n : Int) (h1 : 0 ≤ wd ∧ wd ≤ 64) (h2 : 0 ≤ n ∧ n ≤ 4096) (w : World) : Calls Tryd.prog 83 #[.agg #[.int .u8 k, .int .i64 wd, .int .u64 mk, .int .i64 n]] w fun e w' => e = .returned (.int .i64 (n * wd)) ∧ Below w.heap.size w w' := by
  have h3 := mul_bd h1 h2
  have h4 : wrap64 (n * wd) = n * wd := by generalize n * wd = z at *; simp [wrap64]; omega
  go_enter Tryd.func83, Tryd.ntmps83
  go_wp2
  go_ret
  exact ⟨ret_int (by first | rfl | exact h4), (Below.refl _ _).alloc (Nat.le_refl _) _⟩

theorem run_look (k : Int) (f : FuncId) (hf : (Instr.findNow (.int .u8) (.int .u8 k) wayMap.toList 0).map (fun o => o.map (·.2)) = some (some (fnV f))) (w : World) (r : Nat) (hb : w.heap[r]? = some (.map wayMap 4)) :
    (Instr.lookup 125 (.map (some r)) (.int .u8 k) false).run Tryd.prog w = .ok (.func (.func f) #[] #[]) w := by
  have hc : (Instr.checkKey false 10000 5 (.int .u8 k)).run Tryd.prog w = .ok () w := MapKept.run_checkKey (k := .int .u8 k) Tryd.underlying5 (by simp [MapKept.IsKey]) false 9999
  obtain ⟨o, ho, h2⟩ := Option.map_eq_some_iff.1 hf
  obtain ⟨⟨i, v⟩, rfl, h3⟩ := Option.map_eq_some_iff.1 h2
  obtain rfl : v = fnV f := h3
  have he : wayMap.isEmpty = false := rfl
  simp [Instr.lookup, run_underlying Tryd.underlying125, MapKept.run_getObj_map hb, he, hc, MapKept.run_findKey Tryd.underlying5 ho, Result.andThen, fnV]

/-- What ways leaves, said of an unknown world. -/
def Ways (w : World) (e : Ending) (w' : World) : Prop := e = .returned (.map (some w.heap.size)) ∧ w'.heap[w.heap.size]? = some (.map wayMap 4) ∧ Below w.heap.size w w'
theorem ways_un (w : World) : Calls Tryd.prog 80 #[] w (Ways w) :=
  (ways_any w).mono fun e w' ⟨he, hw⟩ => by subst hw; exact ⟨he, heap_alloc_new w _, (Below.refl _ _).alloc (Nat.le_refl _) _⟩

theorem sz_ad (w : World) (o : Obj) : (w.alloc o).drew.heap.size = w.heap.size + 1 := by simp

set_option maxHeartbeats 1000000 in
theorem slots1 (wd mk n : Int) (w : World) :
    Calls Tryd.prog 78 #[.agg #[.int .u8 1, .int .i64 wd, .int .u64 mk, .int .i64 n]] w fun e w' => e = .returned (.int .i64 (wd)) ∧ Below w.heap.size w w' := by
  have HL := Lib.hid (run_look 1 81 rfl)
  go_enter Tryd.func78, Tryd.ntmps78
  go_wp2_with fail
  go_region_held3 (fun w' => w'.cell? ⟨w.heap.size, 0, none⟩ = some (.int .u8 1) ∧ w'.cell? ⟨w.heap.size, 1, none⟩ = some (.int .i64 wd) ∧ w'.cell? ⟨w.heap.size, 2, none⟩ = some (.int .u64 mk) ∧ w'.cell? ⟨w.heap.size, 3, none⟩ = some (.int .i64 n)) (go_keep)
    (first | (go_at_call 80; refine (ways_un _).mono ?_; rintro e w' ⟨rfl, hm, hb⟩; rw [sz_ad] at hm; have hl := HL.out w' _ hm; have b0 := (Blk.drew (Blk.new w 118 #[.int .u8 1, .int .i64 wd, .int .u64 mk, .int .i64 n])).below hb (by simp); obtain ⟨c0, c1, c2, c3⟩ := b0.c4) | (go_at_call 81; refine (fixed_any _ _ _ _ _).mono ?_; rintro e w2 ⟨rfl, hb2⟩; obtain ⟨d0, d1, d2, d3⟩ := (b0.nx hb2).c4))
  go_wp2
  go_ret
  exact ⟨rfl, bnext (bnext ((balloc (Below.refl _ w) _).drew) hb) hb2⟩

set_option maxHeartbeats 1000000 in
theorem slots2 (wd mk n : Int) (w : World) :
    Calls Tryd.prog 78 #[.agg #[.int .u8 2, .int .i64 wd, .int .u64 mk, .int .i64 n]] w fun e w' => e = .returned (.int .i64 (n)) ∧ Below w.heap.size w w' := by
  have HL := Lib.hid (run_look 2 82 rfl)
  go_enter Tryd.func78, Tryd.ntmps78
  go_wp2_with fail
  go_region_held3 (fun w' => w'.cell? ⟨w.heap.size, 0, none⟩ = some (.int .u8 2) ∧ w'.cell? ⟨w.heap.size, 1, none⟩ = some (.int .i64 wd) ∧ w'.cell? ⟨w.heap.size, 2, none⟩ = some (.int .u64 mk) ∧ w'.cell? ⟨w.heap.size, 3, none⟩ = some (.int .i64 n)) (go_keep)
    (first | (go_at_call 80; refine (ways_un _).mono ?_; rintro e w' ⟨rfl, hm, hb⟩; rw [sz_ad] at hm; have hl := HL.out w' _ hm; have b0 := (Blk.drew (Blk.new w 118 #[.int .u8 2, .int .i64 wd, .int .u64 mk, .int .i64 n])).below hb (by simp); obtain ⟨c0, c1, c2, c3⟩ := b0.c4) | (go_at_call 82; refine (row_any _ _ _ _ _).mono ?_; rintro e w2 ⟨rfl, hb2⟩; obtain ⟨d0, d1, d2, d3⟩ := (b0.nx hb2).c4))
  go_wp2
  go_ret
  exact ⟨rfl, bnext (bnext ((balloc (Below.refl _ w) _).drew) hb) hb2⟩

set_option maxHeartbeats 1000000 in
theorem slots3 (wd mk n : Int) (h1 : 0 ≤ wd ∧ wd ≤ 64) (h2 : 0 ≤ n ∧ n ≤ 4096) (w : World) :
    Calls Tryd.prog 78 #[.agg #[.int .u8 3, .int .i64 wd, .int .u64 mk, .int .i64 n]] w fun e w' => e = .returned (.int .i64 (n * wd)) ∧ Below w.heap.size w w' := by
  have HL := Lib.hid (run_look 3 83 rfl)
  go_enter Tryd.func78, Tryd.ntmps78
  go_wp2_with fail
  go_region_held3 (fun w' => w'.cell? ⟨w.heap.size, 0, none⟩ = some (.int .u8 3) ∧ w'.cell? ⟨w.heap.size, 1, none⟩ = some (.int .i64 wd) ∧ w'.cell? ⟨w.heap.size, 2, none⟩ = some (.int .u64 mk) ∧ w'.cell? ⟨w.heap.size, 3, none⟩ = some (.int .i64 n)) (go_keep)
    (first | (go_at_call 80; refine (ways_un _).mono ?_; rintro e w' ⟨rfl, hm, hb⟩; rw [sz_ad] at hm; have hl := HL.out w' _ hm; have b0 := (Blk.drew (Blk.new w 118 #[.int .u8 3, .int .i64 wd, .int .u64 mk, .int .i64 n])).below hb (by simp); obtain ⟨c0, c1, c2, c3⟩ := b0.c4) | (go_at_call 83; refine (elems_any _ _ _ _ h1 h2 _).mono ?_; rintro e w2 ⟨rfl, hb2⟩; obtain ⟨d0, d1, d2, d3⟩ := (b0.nx hb2).c4))
  go_wp2
  go_ret
  exact ⟨rfl, bnext (bnext ((balloc (Below.refl _ w) _).drew) hb) hb2⟩

set_option maxHeartbeats 1000000 in
theorem slots4 (wd mk n : Int) (w : World) :
    Calls Tryd.prog 78 #[.agg #[.int .u8 4, .int .i64 wd, .int .u64 mk, .int .i64 n]] w fun e w' => e = .returned (.int .i64 (n)) ∧ Below w.heap.size w w' := by
  have HL := Lib.hid (run_look 4 82 rfl)
  go_enter Tryd.func78, Tryd.ntmps78
  go_wp2_with fail
  go_region_held3 (fun w' => w'.cell? ⟨w.heap.size, 0, none⟩ = some (.int .u8 4) ∧ w'.cell? ⟨w.heap.size, 1, none⟩ = some (.int .i64 wd) ∧ w'.cell? ⟨w.heap.size, 2, none⟩ = some (.int .u64 mk) ∧ w'.cell? ⟨w.heap.size, 3, none⟩ = some (.int .i64 n)) (go_keep)
    (first | (go_at_call 80; refine (ways_un _).mono ?_; rintro e w' ⟨rfl, hm, hb⟩; rw [sz_ad] at hm; have hl := HL.out w' _ hm; have b0 := (Blk.drew (Blk.new w 118 #[.int .u8 4, .int .i64 wd, .int .u64 mk, .int .i64 n])).below hb (by simp); obtain ⟨c0, c1, c2, c3⟩ := b0.c4) | (go_at_call 82; refine (row_any _ _ _ _ _).mono ?_; rintro e w2 ⟨rfl, hb2⟩; obtain ⟨d0, d1, d2, d3⟩ := (b0.nx hb2).c4))
  go_wp2
  go_ret
  exact ⟨rfl, bnext (bnext ((balloc (Below.refl _ w) _).drew) hb) hb2⟩

theorem slots_any (k wd mk n : Int) (hk : k = 1 ∨ k = 2 ∨ k = 3 ∨ k = 4) (h1 : 0 ≤ wd ∧ wd ≤ 64) (h2 : 0 ≤ n ∧ n ≤ 4096) (w : World) :
    Calls Tryd.prog 78 #[.agg #[.int .u8 k, .int .i64 wd, .int .u64 mk, .int .i64 n]] w fun e w' => e = .returned (.int .i64 (slotsV k wd n)) ∧ Below w.heap.size w w' := by
  rcases hk with rfl | rfl | rfl | rfl
  · exact slots1 wd mk n w
  · exact slots2 wd mk n w
  · exact slots3 wd mk n h1 h2 w
  · exact slots4 wd mk n w
end Go.Proofs.YtmjkohjijoddaaaDoor
