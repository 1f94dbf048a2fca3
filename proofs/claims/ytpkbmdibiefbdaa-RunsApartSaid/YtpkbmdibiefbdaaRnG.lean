/- Runs in memory: the chain part by part; join by it. -/
import Derived.Test.YtpkbmdibiefbdaaRnF
import Derived.Test.YtpkbmdibiefbdaaRnP
namespace Go.Proofs.Ytpkbmdibiefbdaa
open Go.RowKit
set_option linter.unusedVariables false
set_option linter.unusedSimpArgs false

/-- Where a part begins. -/
def hdP (l : List Nd) (e : Option Addr) : Option Addr :=
  match l with
  | [] => e
  | x :: _ => some ⟨x.1, 0, none⟩
def ndC (x : Nd) (e : Option Addr) : Array Value := #[.int .i64 x.2.1, .int .i64 x.2.2, .pointer e]
/-- A part of a chain lies in memory; behind it comes e. -/
def Seg (w : World) : List Nd → Option Addr → Prop
  | [], _ => True
  | x :: t, e => Blk w x.1 48 (ndC x (hdP t e)) ∧ Seg w t e
theorem hdP_append (p q : List Nd) (e : Option Addr) : hdP (p ++ q) e = hdP p (hdP q e) := by cases p <;> rfl
theorem seg_append {w : World} : ∀ {p q : List Nd} {e : Option Addr}, Seg w (p ++ q) e ↔ Seg w p (hdP q e) ∧ Seg w q e
  | [], q, e => by simp [Seg]
  | x :: p, q, e => by
    rw [List.cons_append, Seg, Seg, hdP_append, seg_append (p := p), and_assoc]
theorem Seg.keep {w w' : World} : ∀ {p : List Nd} {e : Option Addr}, Seg w p e → (∀ x ∈ p, ∀ cs, Blk w x.1 48 cs → Blk w' x.1 48 cs) → Seg w' p e
  | [], _, _, _ => trivial
  | x :: p, e, h, hk => ⟨hk x (by simp) _ h.1, Seg.keep h.2 fun y hy => hk y (List.mem_cons_of_mem _ hy)⟩
theorem Seg.lt {w : World} : ∀ {p : List Nd} {e : Option Addr}, Seg w p e → ∀ x ∈ p, x.1 < w.heap.size
  | x :: p, e, h, y, hy => by
    rcases List.mem_cons.1 hy with rfl | hy
    · exact h.1.lt
    · exact Seg.lt h.2 y hy
theorem Seg.blk {w : World} : ∀ {p : List Nd} {e : Option Addr}, Seg w p e → ∀ x ∈ p, ∃ cs, Blk w x.1 48 cs
  | x :: p, e, h, y, hy => by
    rcases List.mem_cons.1 hy with rfl | hy
    · exact ⟨_, h.1⟩
    · exact Seg.blk h.2 y hy

theorem seg_iff {w : World} : ∀ {ch : List Nd} {e : Option Addr},
    Seg w ch e ↔ ∀ i, i < ch.length → Blk w (ndB ch i) 48 #[.int .i64 (ch.getD i (0, 0, 0)).2.1, .int .i64 (ch.getD i (0, 0, 0)).2.2, .pointer (if i + 1 < ch.length then some ⟨ndB ch (i + 1), 0, none⟩ else e)]
  | [], e => by simp [Seg]
  | x :: t, e => by
    rw [Seg, seg_iff (ch := t)]
    have h0 : (if 0 + 1 < (x :: t).length then some (⟨ndB (x :: t) (0 + 1), 0, none⟩ : Addr) else e) = hdP t e := by
      cases t with
      | nil => simp [hdP]
      | cons y t => simp [hdP, ndB]
    constructor
    · rintro ⟨h1, h2⟩ i hi
      cases i with
      | zero => rw [h0]; exact h1
      | succ i =>
        have := h2 i (by simpa using hi)
        simpa [ndB, List.getD] using this
    · intro h
      refine ⟨?_, fun i hi => ?_⟩
      · have := h 0 (by simp)
        rw [h0] at this
        exact this
      · have := h (i + 1) (by simpa using hi)
        simpa [ndB, List.getD] using this
theorem isCh_iff {w : World} {ch : List Nd} : IsCh w ch ↔ ch ≠ [] ∧ (ch.map Prod.fst).Nodup ∧ Seg w ch none := by
  have hg : ∀ i (hi : i < ch.length), ndB ch i = (ch[i]).1 := fun i hi => by simp [ndB, List.getD, hi]
  constructor
  · intro h
    refine ⟨List.ne_nil_of_length_pos h.pos, ?_, seg_iff.2 h.nd⟩
    rw [List.nodup_iff_pairwise_ne, List.pairwise_iff_getElem]
    intro i j hi hj hij he
    simp only [List.length_map] at hi hj
    simp only [List.getElem_map] at he
    have := h.inj i j hi hj (by rw [hg i hi, hg j hj, he])
    omega
  · rintro ⟨h1, h2, h3⟩
    refine ⟨List.length_pos_iff.2 h1, fun i j hi hj he => ?_, seg_iff.1 h3⟩
    rw [hg i hi, hg j hj] at he
    rw [List.nodup_iff_pairwise_ne, List.pairwise_iff_getElem] at h2
    rcases Nat.lt_trichotomy i j with hl | hl | hl
    · exact absurd (by rw [List.getElem_map, List.getElem_map]; exact he) (h2 i j (by simpa using hi) (by simpa using hj) hl)
    · exact hl
    · exact absurd (by rw [List.getElem_map, List.getElem_map]; exact he.symm) (h2 j i (by simpa using hj) (by simpa using hi) hl)

/-- What a call that turns a set keeps: all that lay below B, and all blocks but nodes. -/
def KpR (B : Nat) (w w' : World) : Prop := Below B w w' ∧ w.heap.size ≤ w'.heap.size ∧ ∀ b t cs, t ≠ 48 → Blk w b t cs → Blk w' b t cs
theorem KpR.refl (B : Nat) (w : World) : KpR B w w := ⟨Below.refl _ _, Nat.le_refl _, fun _ _ _ _ h => h⟩
theorem KpR.t {B : Nat} {a b c : World} (h : KpR B a b) (k : KpR B b c) : KpR B a c := ⟨h.1.trans k.1, Nat.le_trans h.2.1 k.2.1, fun x t cs h1 h3 => k.2.2 x t cs h1 (h.2.2 x t cs h1 h3)⟩
theorem KpR.of_below {B : Nat} {w w' : World} (h : Below w.heap.size w w') (hB : B ≤ w.heap.size) : KpR B w w' := ⟨h.mono hB, h.size, fun _ _ _ _ hb => hb.nx h⟩
theorem KpR.less {B B' : Nat} {w w' : World} (h : KpR B w w') (hB : B' ≤ B) : KpR B' w w' := ⟨h.1.mono hB, h.2.1, h.2.2⟩
theorem KpR.set_ {B : Nat} {w : World} {b i : Nat} {cs : Array Value} (h : Blk w b 48 cs) (hB : B ≤ b) (u : Value) : KpR B w (w.setCell ⟨b, i, none⟩ u) := by
  refine ⟨(Below.refl B w).setCell (p := ⟨b, i, none⟩) hB u, by simp [World.setCell], fun x t cs' h1 h2 => h2.far (p := ⟨b, i, none⟩) ?_ u⟩
  rintro rfl
  exact Blk.ne_ h2 h h1 rfl
theorem KpR.drewN (B : Nat) (w : World) (k : Nat) : KpR B w (w.drewN k) := ⟨bdrewN (Below.refl B w) k, Nat.le_refl _, fun _ _ _ _ h => h⟩

/-- Of nodes: a node is joined with the next one, if they touch. -/
def jnN : List Nd → List Nd
  | x :: y :: t => if x.2.1 + x.2.2 = y.2.1 then (x.1, x.2.1, x.2.2 + y.2.2) :: t else x :: y :: t
  | l => l
theorem jnN_ne (x : Nd) (t : List Nd) : jnN (x :: t) ≠ [] := by
  match t with
  | [] => simp [jnN]
  | y :: t => simp only [jnN]; split <;> simp
theorem jnN_snd (l : List Nd) : (jnN l).map Prod.snd = jnR (l.map Prod.snd) := by
  match l with
  | [] => rfl
  | [x] => rfl
  | x :: y :: t =>
    simp only [jnN, List.map_cons, jnR]
    split <;> simp
theorem jnN_sub (l : List Nd) : ((jnN l).map Prod.fst).Sublist (l.map Prod.fst) := by
  match l with
  | [] => exact List.Sublist.refl _
  | [x] => exact List.Sublist.refl _
  | x :: y :: t =>
    simp only [jnN]
    split
    · simp only [List.map_cons]
      exact ((List.Sublist.refl _).cons _).cons_cons _
    · exact List.Sublist.refl _
theorem jnN_hd (x : Nd) (t : List Nd) (e : Option Addr) : hdP (jnN (x :: t)) e = some ⟨x.1, 0, none⟩ := by
  match t with
  | [] => rfl
  | y :: t =>
    simp only [jnN]
    split <;> rfl

theorem join_any (w : World) (B : Nat) (p : List Nd) (x : Nd) (t : List Nd) (h : IsCh w (p ++ x :: t)) (hB : B ≤ x.1)
    (hx : -10 ≤ x.2.1 ∧ 0 ≤ x.2.2 ∧ x.2.1 + x.2.2 ≤ 1000000) (ht : ∀ y ∈ t, 0 ≤ y.2.2 ∧ y.2.2 ≤ 1000000) :
    Calls Try.prog 25 #[.pointer (some ⟨x.1, 0, none⟩)] w fun e w' => (∃ v, e = .returned v) ∧ IsCh w' (p ++ jnN (x :: t)) ∧ KpR B w w' := by
  obtain ⟨h1, h2, h3⟩ := isCh_iff.1 h
  match t, h1, h2, h3, h, ht with
  | [], h1, h2, h3, h, ht =>
    refine (join_last w x.1 x.2.1 x.2.2 (seg_append.1 h3).2.1).mono ?_
    rintro e w' ⟨hv, rfl⟩
    exact ⟨hv, h, KpR.refl _ _⟩
  | y :: t, h1, h2, h3, h, ht =>
    obtain ⟨s1, s2, s3, s4⟩ := seg_append.1 h3
    have hy := ht y (by simp)
    rw [List.map_append, List.nodup_append] at h2
    obtain ⟨n1, n2, n3⟩ := h2
    simp only [List.map_cons, List.nodup_cons, List.mem_cons, not_or] at n2
    obtain ⟨⟨n21, n22⟩, n23, n24⟩ := n2
    by_cases he : x.2.1 + x.2.2 = y.2.1
    · refine (join_meet w x.1 y.1 n21 x.2.1 x.2.2 y.2.1 y.2.2 (hdP t none) s2 s3 (by omega) he).mono ?_
      rintro e w' ⟨hv, k, rfl⟩
      have hk : ∀ z : Nd, z.1 ≠ x.1 → ∀ cs, Blk w z.1 48 cs → Blk (((w.drewN k).setCell ⟨x.1, 1, none⟩ (.int .i64 (x.2.2 + y.2.2))).setCell ⟨x.1, 2, none⟩ (.pointer (hdP t none))) z.1 48 cs := fun z hz cs hb =>
        ((hb.drewN k).far (p := ⟨x.1, 1, none⟩) hz _).far (p := ⟨x.1, 2, none⟩) hz _
      have e1 := (s2.drewN k).set_ 1 (.int .i64 (x.2.2 + y.2.2))
      refine ⟨hv, isCh_iff.2 ⟨by simp [jnN_ne], ?_, ?_⟩, ?_⟩
      · rw [List.map_append, List.nodup_append]
        refine ⟨n1, ?_, fun a ha b hb => n3 a ha b ((jnN_sub _).subset hb)⟩
        simp only [jnN, he, if_true, List.map_cons, List.nodup_cons]
        exact ⟨n22, n24⟩
      · simp only [jnN, he, if_true]
        refine seg_append.2 ⟨s1.keep fun z hz => hk z ?_, ?_, s4.keep fun z hz => hk z ?_⟩
        · exact n3 z.1 (List.mem_map_of_mem hz) x.1 (by simp)
        · exact e1.set_ 2 (.pointer (hdP t none))
        · rintro e
          exact n22 (e ▸ List.mem_map_of_mem hz)
      · exact (KpR.drewN B w k).t ((KpR.set_ (i := 1) (s2.drewN k) hB _).t (KpR.set_ (i := 2) e1 hB _))
    · refine (join_apart w x.1 y.1 x.2.1 x.2.2 y.2.1 y.2.2 (hdP t none) s2 s3 hx he).mono ?_
      rintro e w' ⟨hv, k, rfl⟩
      refine ⟨hv, ?_, KpR.drewN B w k⟩
      simp only [jnN, he, if_false]
      exact h.nx (bdrewN (Below.refl _ w) k)
end Go.Proofs.Ytpkbmdibiefbdaa
