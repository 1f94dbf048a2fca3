/- Shapes: what Make laid, in plain Lean. -/
import Derived.Test.YtmjkohjijoddaaaDoorShL
namespace Go.Proofs.YtmjkohjijoddaaaDoor
open Go.RowKit
set_option linter.unusedVariables false
set_option linter.unusedSimpArgs false

structure MkFacts (ts : List Ty) (ws W' : List Int) (g id n G : Int) : Prop where
  t : hdX dT W' g = 1
  y : hdX dY W' g = id
  l : hdX dL W' g = n
  s : hdX dS W' g = G
  o : ofvE ts W' g = 0
  n1 : vwN (getT ts id) n ≤ 65536
  g0 : 0 ≤ g
  g1 : g ≤ 65536
  fit : 2 * g + 1 + vwN (getT ts id) n ≤ W'.length
  tg : tgV (getT ts id) n W' g = []
  ok : WdsOk W'

theorem mk_facts {ts : List Ty} {ws : List Int} {g id n : Int} (hts : ts.length ≤ 4095) (hw : WdsOk ws) (hlen : ws.length ≤ 65536) (h : mkE ts ws g id n = 0) : MkFacts ts ws (mkW ts ws g id n) g id n (szG ts id n) := by
  have hE : szE ts id n = 0 := by
    unfold mkE at h
    split at h
    · assumption
    · rename_i h2; exact absurd h h2
  have hfit : 0 ≤ g ∧ g ≤ grN ws ∧ szG ts id n ≤ grN ws - g := by
    rw [mkE, if_pos hE] at h
    split at h
    · assumption
    · cases h
  obtain ⟨a1, a2, a3, a4, a5, a6⟩ := szG_facts hE
  have ho := okH_ob (ty := id) (ln := n) (sz := szG ts id n) a1 (by omega) a3 (by omega) a5 (by omega)
  obtain ⟨e0, e1, e2, e3, e4, e5, e6, e7⟩ := enc_facts ho
  have hW : mkW ts ws g id n = (fillN ws (2 * g).toNat 0 (2 * szG ts id n).toNat).set (2 * g).toNat (encW 1 id n (szG ts id n)) := by rw [mkW, if_pos h]
  have hl : (mkW ts ws g id n).length = ws.length := mkW_len ts ws g id n
  have hgr : grN (mkW ts ws g id n) = grN ws := by unfold grN; rw [hl]
  have hb : 0 ≤ g ∧ 2 * g + 2 * szG ts id n ≤ ws.length := by unfold grN at hfit; omega
  have hin : hdIn (mkW ts ws g id n) g = true := by simp only [hdIn, hgr, decide_eq_true_eq]; omega
  have hget : (mkW ts ws g id n).getD (2 * g).toNat 0 = encW 1 id n (szG ts id n) := by
    rw [hW]
    simp only [List.getD, List.getElem?_set, if_true, fillN_length]
    rw [if_pos (by omega)]
    rfl
  have hx : ∀ f, hdX f (mkW ts ws g id n) g = f (encW 1 id n (szG ts id n)) := fun f => by rw [hdX, hin, if_pos rfl, hget]
  have hN : vwN (getT ts id) n ≤ 65536 ∧ vwN (getT ts id) n + 1 ≤ 2 * szG ts id n := by
    have hi : inT ts id = true := by
      cases hi : inT ts id
      · simp [szE, hi] at hE
      · rfl
    have hE2 := hE
    rw [szE, hi, if_pos rfl] at hE2
    obtain ⟨s0, s1⟩ := slotsV_bd hE2
    simp only [vwN, nS, hE2, if_true, szG, hi, gS]
    omega
  refine ⟨by rw [hx, e3], by rw [hx, e4], by rw [hx, e5], by rw [hx, e6], ?_, hN.1, hb.1, by omega, by rw [hl]; omega, ?_, ?_⟩
  · have hd : hdE (mkW ts ws g id n) g = 0 := by simp only [hdE, hin, if_true, hget, e7]
    have hf : fitV (szE ts id n) (szG ts id n) 1 id n (szG ts id n) = 0 := by simp [fitV, ho, hE]
    rw [ofvE, if_pos hd, hx, hx, hx, hx, e3, e4, e5, e6, hgr, if_pos ⟨rfl, hf, by omega⟩]
  · have hz : ∀ s, slV (getT ts id) n (mkW ts ws g id n) g s = 0 := fun s => by
      unfold slV
      split
      · rename_i hs
        simp only [slIn, decide_eq_true_eq] at hs
        rw [hW]
        simp only [List.getD, List.getElem?_set, fillN_get]
        rw [if_neg (by omega), if_pos (by omega)]
        rfl
      · rfl
    unfold tgV tgL refP
    rw [List.map_eq_nil_iff, List.filter_eq_nil_iff]
    intro y hy
    obtain ⟨s, _, rfl⟩ := List.mem_map.1 hy
    simp [hz]
  · intro u hu
    rw [hW] at hu
    rcases List.mem_or_eq_of_mem_set hu with hu | rfl
    · obtain ⟨i, hi, rfl⟩ := List.getElem_of_mem hu
      have := fillN_get ws (2 * g).toNat 0 (2 * szG ts id n).toNat i
      rw [List.getElem?_eq_getElem hi] at this
      split at this
      · have e := Option.some.inj this; rw [e]; omega
      · have h2 : i < ws.length := by rw [fillN_length] at hi; exact hi
        rw [List.getElem?_eq_getElem h2] at this
        have e := Option.some.inj this
        rw [e]
        exact hw _ (List.getElem_mem h2)
    · exact ⟨e0, e1⟩
end Go.Proofs.YtmjkohjijoddaaaDoor
