/- Runs: small lemmas for the laws. -/
import Derived.Test.YtpkbmdibiefbdaaRnS
import Derived.Test.YtpkbmdibiefbdaaRnT
import Derived.Deep.RegionWith
namespace Go.Proofs.Ytpkbmdibiefbdaa
open Go.RowKit
set_option linter.unusedVariables false
set_option linter.unusedSimpArgs false

theorem IsB4.kpR {B n rb bb gb : Nat} {w w' : World} {cs : List Bool} (h : IsB4 w n rb bb gb cs) (hk : KpR B w w') : IsB4 w' n rb bb gb cs :=
  ⟨hk.2.2 _ _ _ (by decide) h.r, hk.2.2 _ _ _ (by decide) h.i.b, hk.2.2 _ _ _ (by decide) h.i.g, h.i.l⟩
theorem own_kp {w w' : World} {base : Nat} {e : TypeId} {size : Nat} {v : Value} {n : Nat} {xs : List Value} (h : w.ownsRow base e size v n xs) (hk : ∀ b cs, Blk w b e cs → Blk w' b e cs) : w'.ownsRow base e size v n xs := by
  refine ⟨h.1, ?_⟩
  rcases h.2 with hn | ⟨g', cap, cur, e1, hb, hgg, rest⟩
  · exact .inl hn
  · have hb' : Blk w g' e cur := hgg
    exact .inr ⟨g', cap, cur, e1, hb, hk _ _ hb', rest⟩
theorem rn_lit1 (w : World) (a b : Int) : Reads (w.alloc (.cells #[.int .i64 a, .int .i64 b] 24)) (w.alloc (.cells #[.int .i64 a, .int .i64 b] 24)).heap.size 2 (some ⟨w.heap.size, 0, none⟩) 1 ([(a, b)].flatMap rnC) :=
  ⟨rfl, fun _ => ⟨_, rfl, by simp, fun j u hu => by
    have hb := Blk.new w 24 #[.int .i64 a, .int .i64 b]
    match j, hu with
    | 0, hu => cases hu; exact hb.cell 0
    | 1, hu => cases hu; exact hb.cell 1⟩⟩
theorem rn_lit2 (w : World) (a b c d : Int) : Reads (w.alloc (.cells #[.int .i64 a, .int .i64 b, .int .i64 c, .int .i64 d] 24)) (w.alloc (.cells #[.int .i64 a, .int .i64 b, .int .i64 c, .int .i64 d] 24)).heap.size 2 (some ⟨w.heap.size, 0, none⟩) 2 ([(a, b), (c, d)].flatMap rnC) :=
  ⟨rfl, fun _ => ⟨_, rfl, by simp, fun j u hu => by
    have hb := Blk.new w 24 #[.int .i64 a, .int .i64 b, .int .i64 c, .int .i64 d]
    match j, hu with
    | 0, hu => cases hu; exact hb.cell 0
    | 1, hu => cases hu; exact hb.cell 1
    | 2, hu => cases hu; exact hb.cell 2
    | 3, hu => cases hu; exact hb.cell 3⟩⟩
theorem set_is {w : World} {B sb : Nat} {rs L : List Rn} (h : IsSet w B sb rs) (hL : Apt L) (hm : ∀ i, memR rs i = memR L i) : rs = L := by
  obtain ⟨_, _, _, _, hg⟩ := h
  exact apt_uniq rs L hg.1 hL hm
theorem rnew_set (w : World) : Calls Try.prog 7 #[] w fun e w' => e = .returned (.pointer (some ⟨w.heap.size + 1, 0, none⟩)) ∧ IsSet w' w.heap.size (w.heap.size + 1) [] ∧ Below w.heap.size w w' := by
  refine (rnew_any w).mono ?_
  rintro e w' ⟨h1, h2, h3⟩
  exact ⟨h1, ⟨_, h2, rfl, fun x hx => by simp at hx; subst hx; exact Nat.le_refl _, good_nil⟩, h3⟩
theorem add_ex (w : World) (B sb : Nat) (rs : List Rn) (h : IsSet w B sb rs) (hBw : B ≤ w.heap.size) (a l : Int) :
    Calls Try.prog 11 #[.pointer (some ⟨sb, 0, none⟩), .agg #[.int .i64 a, .int .i64 l]] w fun e w' => (∃ v, e = .returned (.int .i64 v)) ∧ (∃ rs', IsSet w' B sb rs') ∧ KpR B w w' := by
  refine (add_any w B sb rs h hBw a l).mono ?_
  rintro e w' ⟨h1, h2, h3, h4⟩
  refine ⟨⟨_, h1⟩, ?_, h4⟩
  by_cases hE : addE rs (a, l) = 0
  · obtain ⟨rs', h5, _⟩ := h3 hE
    exact ⟨rs', h5⟩
  · exact ⟨rs, h2 hE⟩
theorem cut_ex (w : World) (B sb : Nat) (rs : List Rn) (h : IsSet w B sb rs) (hBw : B ≤ w.heap.size) (a l : Int) :
    Calls Try.prog 12 #[.pointer (some ⟨sb, 0, none⟩), .agg #[.int .i64 a, .int .i64 l]] w fun e w' => (∃ v, e = .returned (.int .i64 v)) ∧ (∃ rs', IsSet w' B sb rs') ∧ KpR B w w' := by
  refine (cut_any w B sb rs h hBw a l).mono ?_
  rintro e w' ⟨h1, h2, h3, h4⟩
  refine ⟨⟨_, h1⟩, ?_, h4⟩
  by_cases hE : cutE rs (a, l) = 0
  · obtain ⟨rs', h5, _⟩ := h3 hE
    exact ⟨rs', h5⟩
  · exact ⟨rs, h2 hE⟩

end Go.Proofs.Ytpkbmdibiefbdaa
