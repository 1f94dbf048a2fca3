/- The law TablePlays: the walk. -/
import Derived.Test.YtehicgndccnopaaTableM
import Derived.Laws.OwnMore
namespace Go.Proofs.Ytehicgndccnopaa
open Go.RowKit
set_option linter.unusedVariables false
set_option linter.unusedSimpArgs false

set_option maxHeartbeats 1000000 in
theorem putT_nil (w : World) : Calls Try.prog 51 #[.pointer none] w fun e w' => e = .returned (.string { data := #[] }) ∧ w = w' := by
  go_enter Try.func51, Try.ntmps51
  go_wp2_with fail
  go_ret
  exact ⟨rfl, rfl⟩

/-- The types that are there when the first k of more were added. -/
def pl (ts more : List Ty) (k : Nat) : List Ty := (more.take k).foldl addL ts
theorem pl_succ (ts more : List Ty) (k : Nat) (h : k < more.length) : pl ts more (k + 1) = addL (pl ts more k) (more.getD k (0, 0, 0)) := by
  rw [pl, take_getD more k (0, 0, 0) h, List.foldl_append]
  rfl
theorem addL_okW {ts : List Ty} {x : Ty} (h : ∀ t ∈ ts, OkW t) (hx : OkW x) : ∀ t ∈ addL ts x, OkW t := by
  intro t ht
  unfold addL at ht
  split at ht
  · rcases List.mem_append.1 ht with ht | ht
    · exact h t ht
    · rw [List.mem_singleton.1 ht]; exact hx
  · exact h t ht
theorem pl_ok {ts more : List Ty} (h : ∀ t ∈ ts, OkW t) (hm : ∀ t ∈ more, OkW t) : ∀ k, k ≤ more.length → ∀ t ∈ pl ts more k, OkW t
  | 0, _ => by simpa [pl] using h
  | k + 1, hk => by
    rw [pl_succ ts more k (by omega)]
    exact addL_okW (pl_ok h hm k (by omega)) (hm _ (getD_mem more k _ (by omega)))

theorem own_base {w : World} {B B' : Nat} {e : TypeId} {size : Nat} {v : Value} {n : Nat} {xs : List Value} (h : w.ownsRow B e size v n xs) (hB : B' ≤ B) : w.ownsRow B' e size v n xs := by
  refine ⟨h.1, ?_⟩
  rcases h.2 with h3 | ⟨g, cap, cur, rfl, hb, hg, h3⟩
  · exact .inl h3
  · exact .inr ⟨g, cap, cur, rfl, Nat.le_trans hB hb, hg, h3⟩
theorem IsTb.base {w : World} {B B' tb g : Nat} {v : Value} {ts : List Ty} (h : IsTb w B tb g v ts) (hB : B' ≤ B) : IsTb w B' tb g v ts :=
  ⟨h.s, own_base h.r hB, h.ob, h.ne, Nat.le_trans hB h.lo, h.hi⟩
theorem own_touch3 {w w' : World} {base : Nat} {e : TypeId} {size : Nat} {v : Value} {n : Nat} {xs : List Value} {bs br : Nat} (h : w.ownsRow base e size v n xs) (h1 : v.ownBlock ≠ some bs) (h2 : v.ownBlock ≠ some br) (ht : Touch bs br w w') : w'.ownsRow base e size v n xs := by
  refine ⟨h.1, ?_⟩
  rcases h.2 with h3 | ⟨g, cap, cur, rfl, hb, hg, h3⟩
  · exact .inl h3
  · exact .inr ⟨g, cap, cur, rfl, hb, (ht.block g (Blk.lt hg) (fun e => h1 (by rw [e]; rfl)) (fun e => h2 (by rw [e]; rfl))).trans hg, h3⟩
theorem IsTb.touch {w w' : World} {B tb g tb2 g2 : Nat} {v : Value} {ts : List Ty} (h : IsTb w B tb g v ts) (ht : Touch tb2 g2 w w') (h1 : tb ≠ tb2) (h2 : tb ≠ g2) (h3 : g ≠ tb2) (h4 : g ≠ g2) : IsTb w' B tb g v ts := by
  have ho := h.ob
  refine ⟨h.s.touch ht h1 h2, own_touch3 h.r ?_ ?_ ht, h.ob, h.ne, h.lo, h.hi⟩
  · intro e
    rw [e] at ho
    exact h3 ho.symm
  · intro e
    rw [e] at ho
    exact h4 ho.symm
theorem Reads.touch {w w' : World} {A : Option Addr} {n size : Nat} {xs : List Value} {bs br : Nat} (h : Reads w w.heap.size size A n xs) (hA : 0 < n → ∀ ad, A = some ad → ad.block ≠ bs ∧ ad.block ≠ br) (ht : Touch bs br w w') : Reads w' w'.heap.size size A n xs :=
  ⟨h.1, fun hn => by
    obtain ⟨ad, e, hb, hc⟩ := h.2 hn
    obtain ⟨h1, h2⟩ := hA hn ad e
    refine ⟨ad, e, Nat.lt_of_lt_of_le hb ht.size, fun j u hu => (World.cell?_of_block (w := w) ?_).trans (hc j u hu)⟩
    rw [block_of_add]
    exact ht.block _ hb h1 h2⟩
theorem Reads.blt {w : World} {B : Nat} {A : Option Addr} {n size : Nat} {xs : List Value} (h : Reads w B size A n xs) : 0 < n → ∀ ad, A = some ad → ad.block < B := fun hn ad e => by
  obtain ⟨ad', e', hb, _⟩ := h.2 hn
  rw [e] at e'
  injection e' with e'
  rw [e']
  exact hb

/-- What stands while the law plays: a table and the document's list, apart. -/
structure Plays (W w : World) (tb g : Nat) (v : Value) (A : Option Addr) (m : Nat) (L : List Ty) : Prop where
  t : IsTb w W.heap.size tb g v L
  hg : W.heap.size ≤ g
  r : Reads w w.heap.size 3 A m (L.flatMap tyC)
  len : L.length = m
  ap : 0 < m → ∀ ad, A = some ad → ad.block ≠ tb ∧ ad.block ≠ g
  b : Below W.heap.size W w

theorem Plays.nx {W w w' : World} {tb g : Nat} {v : Value} {A : Option Addr} {m : Nat} {L : List Ty} (h : Plays W w tb g v A m L) (hb : Below w.heap.size w w') : Plays W w' tb g v A m L :=
  ⟨h.t.nx hb, h.hg, (h.r.below hb).more hb.size, h.len, h.ap, bnext h.b hb⟩

/-- A copy goes on; the old one is played with. -/
theorem Plays.copy {W w w1 w2 : World} {tb g tb2 g2 : Nat} {v v2 : Value} {A : Option Addr} {m : Nat} {L : List Ty} (h : Plays W w tb g v A m L) (hI : IsTb w1 w.heap.size tb2 g2 v2 L) (hg2 : w.heap.size ≤ g2) (hb : Below w.heap.size w w1) (hT : Touch tb g w1 w2) : Plays W w2 tb2 g2 v2 A m L := by
  have h1 := h.t.s.lt
  have h2 := h.t.glt
  have h3 := hI.lo
  have hs := h.b.size
  have h4 := h.t.lo
  refine ⟨(hI.touch hT (by omega) (by omega) (by omega) (by omega)).base hs, by omega, ((h.r.below hb).more hb.size).touch h.ap hT, h.len, fun hm ad e => ?_, Below.touch (bnext h.b hb) h4 h.hg (Nat.le_refl _) hT⟩
  have := h.r.blt hm ad e
  omega

/-- Both get one more. -/
theorem Plays.add {W w w1 w2 : World} {tb g g' : Nat} {v v' : Value} {A A' : Option Addr} {m m' : Nat} {L L' : List Ty} (h : Plays W w tb g v A m L) (hI : IsTb w1 W.heap.size tb g' v' L') (hg' : g' = g ∨ w.heap.size ≤ g') (hT : Touch tb g w w1)
    (hr : Reads w2 w2.heap.size 3 A' m' (L'.flatMap tyC)) (hl : L'.length = m') (hf : (A' = A ∧ L' = L) ∨ ∀ ad, A' = some ad → w1.heap.size ≤ ad.block) (hb : Below w1.heap.size w1 w2) : Plays W w2 tb g' v' A' m' L' := by
  have h1 := hI.s.lt
  have h2 := hI.glt
  have hs := h.b.size
  have h4 := h.t.lo
  have hz := hT.size
  refine ⟨hI.nx hb, by rcases hg' with rfl | hg'; exact h.hg; omega, hr, hl, fun hm ad e => ?_, bnext (Below.touch h.b h4 h.hg (Nat.le_refl _) hT) hb⟩
  rcases hf with hf | hf
  · obtain ⟨rfl, rfl⟩ := hf
    obtain rfl : m' = m := hl.symm.trans h.len
    obtain ⟨a1, a2⟩ := h.ap hm ad e
    refine ⟨a1, ?_⟩
    rcases hg' with rfl | hg'
    · exact a2
    · have := h.r.blt hm ad e
      omega
  · have := hf ad e
    omega
end Go.Proofs.Ytehicgndccnopaa
