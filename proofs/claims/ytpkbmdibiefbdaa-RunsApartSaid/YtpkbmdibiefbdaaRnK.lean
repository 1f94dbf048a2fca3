/- Runs: Cut. -/
import Derived.Test.YtpkbmdibiefbdaaRnJ
namespace Go.Proofs.Ytpkbmdibiefbdaa
open Go.RowKit Go.Shelf
set_option linter.unusedVariables false
set_option linter.unusedSimpArgs false

attribute [local go_sem] Oper.semAt_some

def cutH (rs : List Rn) (r : Rn) : Bool := rs.any fun n => decide (n.1 ≤ r.1 ∧ r.1 + r.2 ≤ n.1 + n.2)
def cutE (rs : List Rn) (r : Rn) : Int := if mayB r.1 r.2 then (if cutH rs r then 0 else 3) else 2
/-- What Cut gives. -/
def GivesCut (B sb : Nat) (rs : List Rn) (r : Rn) (w : World) (e : Ending) (w' : World) : Prop :=
  e = .returned (.int .i64 (cutE rs r)) ∧ (cutE rs r ≠ 0 → IsSet w' B sb rs) ∧
    (cutE rs r = 0 → ∃ rs', IsSet w' B sb rs' ∧ (∀ i, memR rs' i = (memR rs i && !inR r i)) ∧ sumR rs' = sumR rs - r.2) ∧ KpR B w w'

theorem cut_chain {W W' : World} {p q M : List Nd} {x n : Nd} (h : IsCh W (p ++ x :: n :: q)) (hM : Seg W' M (hdP q none)) (hMn : (M.map Prod.fst).Nodup) (hf : ∀ m ∈ M, W.heap.size ≤ m.1)
    (hx : Blk W' x.1 48 (ndC x (hdP (M ++ q) none))) (hk : ∀ b cs, b ≠ x.1 → Blk W b 48 cs → Blk W' b 48 cs) : IsCh W' (p ++ x :: (M ++ q)) := by
  obtain ⟨h1, h2, h3⟩ := isCh_iff.1 h
  have hlt := h3.lt
  obtain ⟨s1, s2, s3, s4⟩ := seg_append.1 h3
  rw [List.map_append, List.nodup_append] at h2
  obtain ⟨n1, n2, n3⟩ := h2
  simp only [List.map_cons, List.nodup_cons, List.mem_cons, not_or] at n2
  obtain ⟨⟨n21, n22⟩, n23, n24⟩ := n2
  have hfr : ∀ y ∈ p ++ x :: n :: q, ∀ m ∈ M, y.1 ≠ m.1 := fun y hy m hm => by
    have := hlt y hy
    have := hf m hm
    omega
  refine isCh_iff.2 ⟨by simp, ?_, seg_append.2 ⟨?_, hx, seg_append.2 ⟨hM, ?_⟩⟩⟩
  · rw [List.map_append, List.nodup_append, List.map_cons, List.nodup_cons, List.map_append, List.nodup_append]
    refine ⟨n1, ⟨?_, hMn, n24, ?_⟩, ?_⟩
    · rw [List.mem_append, not_or]
      refine ⟨fun hm => ?_, n22⟩
      obtain ⟨m, hm, he⟩ := List.mem_map.1 hm
      exact hfr x (by simp) m hm he.symm
    · rintro a ha b hb rfl
      obtain ⟨m, hm, he⟩ := List.mem_map.1 ha
      obtain ⟨y, hy, he2⟩ := List.mem_map.1 hb
      exact hfr y (by simp [hy]) m hm (by rw [he, he2])
    · rintro a ha b hb rfl
      obtain ⟨z, hz, he⟩ := List.mem_map.1 ha
      simp only [List.mem_cons, List.mem_append] at hb
      rcases hb with hb | hb | hb
      · exact n3 a ha x.1 (by simp) hb
      · obtain ⟨m, hm, he2⟩ := List.mem_map.1 hb
        exact hfr z (by simp [hz]) m hm (by rw [he, he2])
      · exact n3 a ha a (by simp only [List.map_cons, List.mem_cons]; exact .inr (.inr hb)) rfl
  · exact s1.keep fun z hz cs hb => hk z.1 cs (n3 z.1 (List.mem_map_of_mem hz) x.1 (by simp)) hb
  · exact s4.keep fun z hz cs hb => hk z.1 cs (fun e => n22 (e ▸ List.mem_map_of_mem hz)) hb

theorem ch_split {ch : List Nd} {y : Nat} (h : y + 1 < ch.length) : ∃ p x n q, ch = p ++ x :: n :: q ∧ p.length = y ∧ ndB ch y = x.1 ∧ ndB ch (y + 1) = n.1 ∧ (ch.getD (y + 1) (0, 0, 0)) = n ∧ ch.getD y (0, 0, 0) = x ∧ ndN ch (y + 1) = hdP q none := by
  have e : ch = ch.take y ++ ch[y] :: ch[y + 1] :: ch.drop (y + 2) := by
    rw [← List.drop_eq_getElem_cons (by omega : y + 1 < ch.length), ← List.drop_eq_getElem_cons (by omega : y < ch.length), List.take_append_drop]
  refine ⟨ch.take y, ch[y], ch[y + 1], ch.drop (y + 2), e, by simp; omega, by simp [ndB, List.getD, show y < ch.length by omega], by simp [ndB, List.getD, h], by simp [List.getD, h], by simp [List.getD, show y < ch.length by omega], ?_⟩
  unfold ndN
  split
  · rename_i h2
    rw [List.drop_eq_getElem_cons h2]
    simp [hdP, ndB, List.getD, h2]
  · rename_i h2
    rw [List.drop_eq_nil_of_le (by omega)]
    rfl
/-- The set behind a cut. -/
theorem cut_set {W W' : World} {B sb : Nat} {ch p q M : List Nd} {x n : Nd} {rs : List Rn} {r : Rn} (hr : IsRn W sb ch) (he : ch.map Prod.snd = (-2, 1) :: rs) (hb : ∀ z ∈ ch, B ≤ z.1) (hg : GoodR rs) (hB : B ≤ W.heap.size)
    (hs : ch = p ++ x :: n :: q) (hM : Seg W' M (hdP q none)) (hMn : (M.map Prod.fst).Nodup) (hf : ∀ m ∈ M, W.heap.size ≤ m.1) (hm : M.map Prod.snd = cutM n.2 r)
    (hx : Blk W' x.1 48 (ndC x (hdP (M ++ q) none))) (hk : ∀ b t cs, b ≠ x.1 → Blk W b t cs → Blk W' b t cs) (h1 : n.2.1 ≤ r.1) (h2 : r.1 + r.2 ≤ n.2.1 + n.2.2) (h3 : 1 ≤ r.2) :
    ∃ rs', IsSet W' B sb rs' ∧ (∀ i, memR rs' i = (memR rs i && !inR r i)) ∧ sumR rs' = sumR rs - r.2 := by
  subst hs
  have hxb : Blk W x.1 48 (ndC x (hdP (n :: q) none)) := (seg_append.1 (isCh_iff.1 hr.c).2.2).2.1
  obtain ⟨ps, hps⟩ : ∃ ps, p.map Prod.snd ++ [x.2] = (-2, 1) :: ps ∧ rs = ps ++ n.2 :: q.map Prod.snd := by
    simp only [List.map_append, List.map_cons] at he
    cases p with
    | nil => simp at he; exact ⟨[], by simp [he.1], by simp [he.2]⟩
    | cons y p => simp at he; exact ⟨p.map Prod.snd ++ [x.2], by simp [he.1], by simp [← he.2]⟩
  obtain ⟨hp1, hp2⟩ := hps
  obtain ⟨g1, g2, g3⟩ := cut_good hg hp2 h3 h1 h2
  refine ⟨_, ⟨p ++ x :: (M ++ q), ⟨?_, cut_chain hr.c hM hMn hf hx (fun b cs => hk b _ cs)⟩, ?_, ?_, g1⟩, g2, g3⟩
  · have h0 := hk _ _ _ (Blk.ne_ hr.s hxb (by decide)) hr.s
    have e1 : ndB (p ++ x :: (M ++ q)) 0 = ndB (p ++ x :: n :: q) 0 := by cases p <;> rfl
    rw [e1]
    exact h0
  · simp only [List.map_append, List.map_cons, hm]
    rw [show p.map Prod.snd ++ x.2 :: (cutM n.2 r ++ q.map Prod.snd) = (p.map Prod.snd ++ [x.2]) ++ (cutM n.2 r ++ q.map Prod.snd) by simp, hp1]
    simp
  · intro z hz
    simp only [List.mem_append, List.mem_cons] at hz
    rcases hz with hz | rfl | hz | hz
    · exact hb z (by simp [hz])
    · exact hb z (by simp)
    · exact Nat.le_trans hB (hf z hz)
    · exact hb z (by simp [hz])
end Go.Proofs.Ytpkbmdibiefbdaa
