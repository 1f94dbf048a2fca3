/- Shapes: Targets. -/
import Derived.Test.YtmjkohjijoddaaaDoorShG
namespace Go.Proofs.YtmjkohjijoddaaaDoor
open Go.RowKit Go.Shelf
set_option linter.unusedVariables false
set_option linter.unusedSimpArgs false

attribute [local go_sem] Oper.semAt_some

theorem refs_any (p : Option Addr) (w : World) : Calls Tryd.prog 57 #[.pointer p] w fun e w' => e = .returned (.func (.func 71) #[] #[.pointer (some ⟨w.heap.size, 0, none⟩)]) ∧ w' = w.alloc (.cells #[.pointer p] 46) := by
  go_enter Tryd.func57, Tryd.ntmps57
  go_wp2
  go_ret
  exact ⟨rfl, rfl⟩

/-- The words that are not 0, of what came. -/
def tgL (l : List (Int × Int)) : List Int := (l.filter fun y => y.2 != 0).map Prod.snd
theorem tgL_le (l : List (Int × Int)) : (tgL l).length ≤ l.length := by simp [tgL, List.length_filter_le]
theorem tgL_hit (l : List (Int × Int)) {y : Int × Int} (h : y.2 ≠ 0) : tgL (l ++ [y]) = tgL l ++ [y.2] := by simp [tgL, h]
theorem tgL_miss (l : List (Int × Int)) {y : Int × Int} (h : y.2 = 0) : tgL (l ++ [y]) = tgL l := by simp [tgL, h]
/-- What a view's Targets tells. -/
def tgV (x : Ty) (ln : Int) (ws : List Int) (g : Int) : List Int := tgL (refP x ln ws g)

theorem kpV_b {n₀ : Nat} {w : World} (hn : n₀ ≤ w.heap.size) (W : World) (l : Nat) (o o' : Obj) (hl : w.heap.size ≤ l) (h : W.heap[l]? = some o) (hc : o.isCells = false) (hw : o.isWalk = false) : KpV n₀ W (W.putObj l o') := by
  refine ⟨belowK_b hn W l o o' hl h hc hw, fun b t cs _ _ hb => ?_⟩
  have hne : b ≠ l := by
    rintro rfl
    have h1 : W.heap[b]? = some (.cells cs t (0, 0)) := hb
    rw [h1] at h
    cases h
    cases hc
  exact (World.putObj_heap_other hne).trans hb

theorem kp_append {W w1 : World} {n₀ B : Nat} {v v' : Value} {k m : Nat} {xs ys : List Value} {tmp : Obj} (hv : Boxed W B 34 v) (hrow : W.ownsRow n₀ 24 1 v k xs) (hn₀ : n₀ ≤ W.heap.size) (hB : n₀ ≤ B)
    (hown' : w1.ownsRow n₀ 24 1 v' m ys) (hgrow : (W.alloc tmp).grownBy w1 v.ownBlock) : KpV n₀ W (w1.setCell ⟨B, 0, none⟩ v') := by
  refine ⟨(hv.appended (by decide) hrow hn₀ hB hown' hgrow).2.2.2.2, fun b t cs h1 h2 hb => ?_⟩
  have e1 : v.ownBlock ≠ some b := own_blk_ne hrow hb (Ne.symm h2)
  have e2 : b ≠ B := by
    rintro rfl
    have h3 : W.heap[b]? = some (.cells #[v] 34 (0, 0)) := hv
    have h4 : W.heap[b]? = some (.cells cs t (0, 0)) := hb
    rw [h3] at h4
    simp at h4
    exact h1 h4.2.symm
  have hb1 : Blk w1 b t cs := (hgrow.block b (by have := hb.lt; simp; omega) (Ne.symm e1)).trans (hb.alloc tmp)
  exact hb1.far (p := ⟨B, 0, none⟩) e2 v'

set_option maxRecDepth 100000 in
set_option maxHeartbeats 4000000 in
theorem targets_any (w : World) (vb bs br : Nat) (g tg ty ln sz : Int) (x : Ty) (ws : List Int) (rs : List Value) (c : Nat) (h : IsVw w vb bs g tg ty ln sz x) (hx : OkW x) (ha : IsAr w bs br ws rs c) (g0 : 0 ≤ g) (g1 : g ≤ 65536) (hN : vwN x ln ≤ 65536) (hfit : 2 * g + 1 + vwN x ln ≤ ws.length) :
    Calls Tryd.prog 25 #[.pointer (some ⟨vb, 0, none⟩)] w fun e W' => ∃ v, e = .returned v ∧ W'.ownsRow w.heap.size 24 1 v (tgV x ln ws g).length ((tgV x ln ws g).map (Value.int .u64)) ∧ Below w.heap.size w W' := by
  obtain ⟨i0, hi, hz0, hz1, hz2⟩ := info_parts Tryd.infoU64
  have hlen : (refP x ln ws g).length ≤ 65536 := by have := refsR_le x.1 x.2.1 x.2.2 ln; simpa [refP] using this
  refine (callsIn_wide (n := 3)).1 ?_
  refine callsIn_of_wp_marks Tryd.func25 rfl trivial ?_ rfl
  simp only [Tryd.ntmps25, List.size_toArray, List.length_cons, List.length_nil, Nat.reduceAdd, Nat.reduceSub, Array.replicate_succ, Array.replicate_zero, List.push_toArray, List.append_toArray, List.nil_append, List.cons_append]
  gi_wp2_with (refine ⟨trivial, ?_⟩; gi_at_call 57; refine (callsIn_wide.2 (refs_any _ _)).mono ?_; rintro e w' ⟨rfl, rfl⟩)
  have bO := Boxed.new w 34 (.slice none 0 0)
  have bN := Boxed.new (w.alloc (.cells #[.slice none 0 0] 34)) 46 (.pointer (some ⟨vb, 0, none⟩))
  rw [World.size_alloc] at bN
  have hB0 : Below w.heap.size w ((w.alloc (.cells #[.slice none 0 0] 34)).alloc (.cells #[.pointer (some ⟨vb, 0, none⟩)] 46)) := ((Below.refl _ w).alloc (Nat.le_refl _) _).alloc (by simp) _
  refine wpIn_rangeFunc_ownG (F := Fence.wide) rfl (by omega) (gf := 71) (lb := #[.pointer (some ⟨w.heap.size + 1, 0, none⟩)]) rfl trivial (enters_of Tryd.func71 (by kernel_rfl) rfl)
    (encs := fun y : Int × Int => #[.int .i64 y.1, .int .u64 y.2]) (Kp := KpV w.heap.size) (S := fun ys => ys = refP x ln ws g) (Sp := fun pre => pre <+: refP x ln ws g) (N := (refP x ln ws g).length) (w0 := (w.alloc (.cells #[.slice none 0 0] 34)).alloc (.cells #[.pointer (some ⟨vb, 0, none⟩)] 46))
    (fun l J Jx W hW hJ _ hY h0 => refs1_in _ (by omega) l (w.heap.size + 1) vb bs br w g tg ty ln sz x ws rs c h hx ha g0 g1 hN hfit J Jx W hJ hY (Blk.below (w := (w.alloc (.cells #[.slice none 0 0] 34)).alloc (.cells #[.pointer (some ⟨vb, 0, none⟩)] 46)) bN hW (by simp)) (hB0.trans (hW.mono (by simp; omega))) h0)
    (fun h k => h.t k) (kpV_b (by simp; omega)) (Below.refl _ _) (fun _ => rfl)
    (fun pre W => (∃ v, Boxed W w.heap.size 34 v ∧ W.ownsRow w.heap.size 24 1 v (tgL pre).length ((tgL pre).map (Value.int .u64)) ∧ True) ∧ Below w.heap.size w W)
    (fun _ _ _ => False)
    (OwnFrom.and (Own.from (holdsRow_own w.heap.size w.heap.size 34 24 1 (fun pre => (tgL pre).length) (fun pre => (tgL pre).map (Value.int .u64)) (fun _ _ => True)) _) (ownFrom_below (Nat.le_refl _) (by simp; omega)))
    (fun _ _ _ _ _ hs _ _ => hs)
    ⟨⟨_, bO.alloc _, World.ownsRow_nil _ _ _ _, trivial⟩, hB0⟩
    (fun y => { tmps := #[.pointer (some ⟨vb, 0, none⟩), undef, .pointer (some ⟨w.heap.size, 0, none⟩), undef, .int .u64 y.2, .pointer (some ⟨vb, 0, none⟩), .func (.func 71) #[] #[.pointer (some ⟨w.heap.size + 1, 0, none⟩)], .int .i64 y.1, .int .u64 y.2, undef, undef, undef, undef, undef, undef, undef], defers := [] }) ?assign ?body ?done ?stop
  case assign =>
    intro l y W K hK
    gi_wp2
    exact hK
  case body =>
    rintro l pre ⟨s, y⟩ W ⟨⟨v, hv, hrow, _⟩, hB⟩ hlt
    have hc := hv.cell
    have hpl := tgL_le pre
    obtain ⟨A, cc, rfl, _⟩ := own_form hrow
    dsimp only
    by_cases hy : y = 0
    · have r1 : (y != 0) = false := by simpa using hy
      gi_wp2_with fail
      exact ⟨KeepsFrom.refl _ _, KpV.refl _ _, ⟨_, hv, by rw [tgL_miss pre hy]; exact hrow, trivial⟩, hB⟩
    · have r1 : (y != 0) = true := by simpa using hy
      gi_wp2_with (gi_at_builtin; refine wpListIn_append_own _ rfl _ _ 34 rfl w.heap.size 24 i0 (.int .u64 0) 1 8 Tryd.underlying34 hi hz0 hz1 hz2 rfl (by decide) _ _ _ rfl (hrow.alloc _) ⟨W.heap.size, 0, none⟩ 1 1 [.int .u64 y] rfl rfl (cell_one_new _ _ _) (by simp [Value.oneCell']) (by unfold maxLen; omega) (by omega) (by have := hB.size; simp; omega) ?_; intro v' w1 hown' hgrow _; obtain ⟨g', cap', rfl⟩ := ownsRow_succ hown'; have hkp := kp_append hv hrow hB.size (Nat.le_refl _) hown' hgrow; obtain ⟨hv1, hv2, hr2, hk2, hb2⟩ := hv.appended (by decide) hrow hB.size (Nat.le_refl _) hown' hgrow; have hc1 := hv1.cell; have hf1 := hv1.frozen)
      exact ⟨hk2.from _, hkp, ⟨_, hv2, by rw [tgL_hit pre hy]; simpa using hr2, trivial⟩, hB.trans hb2⟩
  case done =>
    rintro D ys W hD rfl ⟨⟨v, hv, hrow, _⟩, hB⟩ hK
    have hc := hv.cell
    have hf := hv.frozen
    obtain ⟨A, cc, rfl, _⟩ := own_form hrow
    gi_wp2_with fail
    have hDne : D ≠ w.heap.size := by simp at hD; omega
    have hK2 : (W.setCell ⟨w.heap.size, 0, none⟩ (.slice A (tgL (refP x ln ws g)).length cc)).heap[D]? = some (.deferred (some [])) := (Below.heap_setCell W ⟨w.heap.size, 0, none⟩ _ D hDne).trans hK
    have hv2 : Boxed (W.setCell ⟨w.heap.size, 0, none⟩ (.slice A (tgL (refP x ln ws g)).length cc)) w.heap.size 34 (.slice A (tgL (refP x ln ws g)).length cc) := hv.set _
    have hr2 := hrow.kept (grownBy_setCell' W w.heap.size (.slice A (tgL (refP x ln ws g)).length cc)) (.inr (hv.not_row (by decide) hrow).symm)
    have hB2 := hB.setCell (p := ⟨w.heap.size, 0, none⟩) (Nat.le_refl _) (.slice A (tgL (refP x ln ws g)).length cc)
    clear hK hv hrow hB hc hf
    generalize W.setCell ⟨w.heap.size, 0, none⟩ (.slice A (tgL (refP x ln ws g)).length cc) = W2 at *
    have hv3 : Boxed (W2.putObj D (.deferred none)) w.heap.size 34 (.slice A (tgL (refP x ln ws g)).length cc) := (World.putObj_heap_other (Ne.symm hDne)).trans hv2
    have hc3 := hv3.cell
    refine ⟨by simp, .inl ⟨_, _, rfl, run_takeDeferred hK2, ?_⟩⟩
    refine ⟨.slice A (tgL (refP x ln ws g)).length cc, by simp [results, Tryd.results25, go_sem, hc3], .slice A (tgL (refP x ln ws g)).length cc, rfl, ownsRow_putObj hr2 _ hK2 rfl, ?_⟩
    exact hB2.trans (belowK_b (w := w) (Nat.le_refl _) W2 D _ _ (by simp at hD; omega) hK2 rfl rfl)
  case stop =>
    rintro D c pre W _ _ h _
    exact h.elim
end Go.Proofs.YtmjkohjijoddaaaDoor
