/- Runs: the plain law: rows of runs that lie apart, and the numbers in them. -/
import Derived.Test.YtpkbmdibiefbdaaRnC
namespace Go.Proofs.Ytpkbmdibiefbdaa
open Go.RowKit
set_option linter.unusedVariables false
set_option linter.unusedSimpArgs false

/-- A run: its first number, how many. -/
abbrev Rn := Int × Int
def inR (r : Rn) (i : Int) : Bool := decide (r.1 ≤ i ∧ i < r.1 + r.2)
def memR (l : List Rn) (i : Int) : Bool := l.any fun r => inR r i
def sumR (l : List Rn) : Int := (l.map Prod.snd).sum
/-- They rise, and none touches another one. -/
def Apt (l : List Rn) : Prop := (∀ r ∈ l, 1 ≤ r.2) ∧ l.Pairwise fun a b => a.1 + a.2 < b.1
def GoodR (l : List Rn) : Prop := Apt l ∧ ∀ i, memR l i = true → 0 ≤ i ∧ i < 65536

theorem inR_iff {r : Rn} {i : Int} : inR r i = true ↔ r.1 ≤ i ∧ i < r.1 + r.2 := by simp [inR]
theorem memR_nil (i : Int) : memR [] i = false := rfl
theorem memR_cons (x : Rn) (l : List Rn) (i : Int) : memR (x :: l) i = (inR x i || memR l i) := rfl
theorem memR_append (a b : List Rn) (i : Int) : memR (a ++ b) i = (memR a i || memR b i) := by simp [memR]
theorem memR_of {l : List Rn} {r : Rn} {i : Int} (h : r ∈ l) (hi : inR r i = true) : memR l i = true := List.any_eq_true.2 ⟨r, h, hi⟩
theorem sumR_append (a b : List Rn) : sumR (a ++ b) = sumR a + sumR b := by simp [sumR]
theorem sumR_cons (x : Rn) (l : List Rn) : sumR (x :: l) = x.2 + sumR l := by simp [sumR]

theorem Apt.tail {x : Rn} {l : List Rn} (h : Apt (x :: l)) : Apt l := ⟨fun r hr => h.1 r (List.mem_cons_of_mem _ hr), (List.pairwise_cons.1 h.2).2⟩
theorem apt_gap {x : Rn} {a : List Rn} (h : Apt (x :: a)) {i : Int} (hi : memR a i = true) : x.1 + x.2 < i := by
  obtain ⟨r, hr, hi⟩ := List.any_eq_true.1 hi
  have := (List.pairwise_cons.1 h.2).1 r hr
  have := inR_iff.1 hi
  omega
theorem apt_low {x : Rn} {a : List Rn} (h : Apt (x :: a)) {i : Int} (hi : memR (x :: a) i = true) : x.1 ≤ i := by
  rw [memR_cons, Bool.or_eq_true] at hi
  rcases hi with hi | hi
  · exact (inR_iff.1 hi).1
  · have := apt_gap h hi
    have := h.1 x (by simp)
    omega
theorem memR_self {x : Rn} {a : List Rn} (h : 1 ≤ x.2) : memR (x :: a) x.1 = true := by
  rw [memR_cons, inR_iff.2 ⟨by omega, by omega⟩]; rfl

theorem apt_uniq : ∀ (a b : List Rn), Apt a → Apt b → (∀ i, memR a i = memR b i) → a = b
  | [], [], _, _, _ => rfl
  | [], y :: b, _, hb, h => by
    have h1 := h y.1
    rw [memR_self (hb.1 y (by simp))] at h1
    cases h1
  | x :: a, [], ha, _, h => by
    have h1 := h x.1
    rw [memR_self (ha.1 x (by simp))] at h1
    cases h1
  | x :: a, y :: b, ha, hb, h => by
    have hx := ha.1 x (by simp)
    have hy := hb.1 y (by simp)
    have e1 : x.1 = y.1 := by
      have h1 := apt_low ha ((h y.1).trans (memR_self hy))
      have h2 := apt_low hb ((h x.1).symm.trans (memR_self hx))
      omega
    have e2 : x.2 = y.2 := by
      rcases Int.lt_trichotomy x.2 y.2 with hl | hl | hl
      · have h1 : memR (x :: a) (x.1 + x.2) = true := by rw [h, memR_cons, inR_iff.2 ⟨by omega, by omega⟩]; rfl
        rw [memR_cons, Bool.or_eq_true] at h1
        rcases h1 with h1 | h1
        · have := inR_iff.1 h1; omega
        · have := apt_gap ha h1; omega
      · exact hl
      · have h1 : memR (y :: b) (y.1 + y.2) = true := by rw [← h, memR_cons, inR_iff.2 ⟨by omega, by omega⟩]; rfl
        rw [memR_cons, Bool.or_eq_true] at h1
        rcases h1 with h1 | h1
        · have := inR_iff.1 h1; omega
        · have := apt_gap hb h1; omega
    obtain rfl : x = y := Prod.ext e1 e2
    have hab : ∀ i, memR a i = memR b i := fun i => by
      have h1 := h i
      rw [memR_cons, memR_cons] at h1
      cases hi : inR x i
      · simpa [hi] using h1
      · have g1 : memR a i = false := by
          cases hm : memR a i
          · rfl
          · have := apt_gap ha hm
            have := inR_iff.1 hi
            omega
        have g2 : memR b i = false := by
          cases hm : memR b i
          · rfl
          · have := apt_gap hb hm
            have := inR_iff.1 hi
            omega
        rw [g1, g2]
    rw [apt_uniq a b ha.tail hb.tail hab]

theorem good_bd {l : List Rn} (h : GoodR l) {r : Rn} (hr : r ∈ l) : 0 ≤ r.1 ∧ 1 ≤ r.2 ∧ r.1 + r.2 ≤ 65536 := by
  have h1 := h.1.1 r hr
  have h2 := h.2 r.1 (memR_of hr (inR_iff.2 ⟨by omega, by omega⟩))
  have h3 := h.2 (r.1 + r.2 - 1) (memR_of hr (inR_iff.2 ⟨by omega, by omega⟩))
  omega
theorem good_nil : GoodR [] := ⟨⟨fun _ h => (by cases h), List.Pairwise.nil⟩, fun _ h => (by cases h)⟩

/-- A run is joined with the next one, if they touch. -/
def jnR : List Rn → List Rn
  | x :: y :: t => if x.1 + x.2 = y.1 then (x.1, x.2 + y.2) :: t else x :: y :: t
  | l => l
theorem jnR_two (x y : Rn) (t : List Rn) : jnR (x :: y :: t) = if x.1 + x.2 = y.1 then (x.1, x.2 + y.2) :: t else x :: y :: t := rfl
theorem jn_mem (l : List Rn) (h : ∀ r ∈ l, 1 ≤ r.2) (i : Int) : memR (jnR l) i = memR l i := by
  match l, h with
  | [], _ => rfl
  | [x], _ => rfl
  | x :: y :: t, h =>
    rw [jnR_two]
    split
    · rename_i he
      have hx := h x (by simp)
      have hy := h y (by simp)
      rw [memR_cons, memR_cons, memR_cons, ← Bool.or_assoc]
      congr 1
      rw [Bool.eq_iff_iff, Bool.or_eq_true, inR_iff, inR_iff, inR_iff]
      dsimp only
      omega
    · rfl
theorem jn_sum (l : List Rn) : sumR (jnR l) = sumR l := by
  match l with
  | [] => rfl
  | [x] => rfl
  | x :: y :: t =>
    rw [jnR_two]
    split
    · simp only [sumR_cons]; omega
    · rfl
theorem jn_apt {x : Rn} {t : List Rn} (h : Apt t) (hx : 1 ≤ x.2) (hl : ∀ y ∈ t, x.1 + x.2 ≤ y.1) : Apt (jnR (x :: t)) ∧ ∀ z ∈ jnR (x :: t), x.1 ≤ z.1 := by
  match t, h, hl with
  | [], h, hl => exact ⟨⟨fun r hr => by simp [jnR] at hr; rw [hr]; exact hx, by simp [jnR]⟩, fun z hz => by simp [jnR] at hz; rw [hz]; exact Int.le_refl _⟩
  | y :: t, h, hl =>
    have hy := h.1 y (by simp)
    have hly := hl y (by simp)
    have hyt := (List.pairwise_cons.1 h.2).1
    rw [jnR_two]
    split
    · rename_i he
      refine ⟨⟨fun r hr => ?_, List.pairwise_cons.2 ⟨fun z hz => ?_, (List.pairwise_cons.1 h.2).2⟩⟩, fun z hz => ?_⟩
      · rcases List.mem_cons.1 hr with rfl | hr
        · dsimp only; omega
        · exact h.1 r (List.mem_cons_of_mem _ hr)
      · have := hyt z hz
        dsimp only
        omega
      · rcases List.mem_cons.1 hz with rfl | hz
        · exact Int.le_refl _
        · have := hyt z hz
          omega
    · rename_i he
      refine ⟨⟨fun r hr => ?_, List.pairwise_cons.2 ⟨fun z hz => ?_, h.2⟩⟩, fun z hz => ?_⟩
      · rcases List.mem_cons.1 hr with rfl | hr
        · exact hx
        · exact h.1 r hr
      · rcases List.mem_cons.1 hz with rfl | hz
        · omega
        · have := hyt z hz
          omega
      · rcases List.mem_cons.1 hz with rfl | hz
        · exact Int.le_refl _
        · have := hl z hz
          omega

theorem Apt.right {p q : List Rn} (h : Apt (p ++ q)) : Apt q := ⟨fun r hr => h.1 r (List.mem_append_right _ hr), (List.pairwise_append.1 h.2).2.1⟩
theorem Apt.left {p q : List Rn} (h : Apt (p ++ q)) : Apt p := ⟨fun r hr => h.1 r (List.mem_append_left _ hr), (List.pairwise_append.1 h.2).1⟩
theorem apt_before {p q : List Rn} {n : Rn} (h : Apt (p ++ n :: q)) {i : Int} (hi : memR p i = true) : i < n.1 := by
  obtain ⟨r, hr, hi⟩ := List.any_eq_true.1 hi
  have := (List.pairwise_append.1 h.2).2.2 r hr n (by simp)
  have := inR_iff.1 hi
  omega

/-- What Add makes: of the runs up to x, and those behind. -/
def insR (p q : List Rn) (x r : Rn) : List Rn := p ++ jnR (x :: jnR (r :: q))
theorem ins_facts {p q : List Rn} {x r : Rn} (h : Apt (p ++ x :: q)) (hr : 1 ≤ r.2) (h1 : x.1 + x.2 ≤ r.1) (h2 : ∀ y ∈ q, r.1 + r.2 ≤ y.1) :
    Apt (insR p q x r) ∧ (∀ i, memR (insR p q x r) i = (memR (p ++ x :: q) i || inR r i)) ∧ sumR (insR p q x r) = sumR (p ++ x :: q) + r.2 := by
  have hx := h.1 x (by simp)
  obtain ⟨a1, a2⟩ := jn_apt (x := r) h.right.tail hr h2
  obtain ⟨b1, b2⟩ := jn_apt (x := x) a1 hx (fun z hz => by have := a2 z hz; omega)
  refine ⟨⟨fun z hz => ?_, List.pairwise_append.2 ⟨h.left.2, b1.2, fun a ha b hb => ?_⟩⟩, fun i => ?_, ?_⟩
  · rcases List.mem_append.1 hz with hz | hz
    · exact h.1 z (List.mem_append_left _ hz)
    · exact b1.1 z hz
  · have := (List.pairwise_append.1 h.2).2.2 a ha x (by simp)
    have := b2 b hb
    omega
  · unfold insR
    rw [memR_append, jn_mem _ (fun z hz => by
      rcases List.mem_cons.1 hz with rfl | hz
      · exact hx
      · exact a1.1 z hz), memR_cons, jn_mem _ (fun z hz => by
      rcases List.mem_cons.1 hz with rfl | hz
      · exact hr
      · exact h.1 z (by simp [hz])), memR_cons, memR_append, memR_cons]
    cases memR p i <;> cases inR x i <;> cases inR r i <;> cases memR q i <;> rfl
  · unfold insR
    rw [sumR_append, jn_sum, sumR_cons, jn_sum, sumR_cons, sumR_append, sumR_cons]
    omega

/-- What is left of a run. -/
def cutM (n r : Rn) : List Rn := (if n.1 < r.1 then [(n.1, r.1 - n.1)] else []) ++ (if r.1 + r.2 < n.1 + n.2 then [(r.1 + r.2, n.1 + n.2 - (r.1 + r.2))] else [])
theorem cut_facts {p q : List Rn} {n r : Rn} (h : Apt (p ++ n :: q)) (hr : 1 ≤ r.2) (h1 : n.1 ≤ r.1) (h2 : r.1 + r.2 ≤ n.1 + n.2) :
    Apt (p ++ (cutM n r ++ q)) ∧ (∀ i, memR (p ++ (cutM n r ++ q)) i = (memR (p ++ n :: q) i && !inR r i)) ∧ sumR (p ++ (cutM n r ++ q)) = sumR (p ++ n :: q) - r.2 := by
  have hn := h.1 n (by simp)
  have hm : ∀ i, memR (cutM n r) i = (inR n i && !inR r i) := fun i => by
    rw [Bool.eq_iff_iff, Bool.and_eq_true, Bool.not_eq_true', ← Bool.not_eq_true, inR_iff, inR_iff, cutM, memR_append, Bool.or_eq_true]
    split <;> split <;> simp only [memR_cons, memR_nil, Bool.or_false, inR_iff, Bool.false_eq_true, or_false, false_or, false_iff] <;> omega
  have hc : ∀ z ∈ cutM n r, n.1 ≤ z.1 ∧ 1 ≤ z.2 ∧ z.1 + z.2 ≤ n.1 + n.2 := fun z hz => by
    rw [cutM, List.mem_append] at hz
    rcases hz with hz | hz <;> split at hz <;> simp at hz <;> subst hz <;> dsimp only <;> omega
  have hp : (cutM n r).Pairwise fun a b => a.1 + a.2 < b.1 := by
    unfold cutM
    split <;> split <;> simp <;> omega
  have hq := (List.pairwise_cons.1 h.right.2).1
  have hpn := (List.pairwise_append.1 h.2).2.2
  refine ⟨⟨fun z hz => ?_, List.pairwise_append.2 ⟨h.left.2, List.pairwise_append.2 ⟨hp, h.right.tail.2, fun a ha b hb => ?_⟩, fun a ha b hb => ?_⟩⟩, fun i => ?_, ?_⟩
  · rcases List.mem_append.1 hz with hz | hz
    · exact h.1 z (List.mem_append_left _ hz)
    · rcases List.mem_append.1 hz with hz | hz
      · exact (hc z hz).2.1
      · exact h.1 z (by simp [hz])
  · have := hq b hb
    have := hc a ha
    omega
  · rcases List.mem_append.1 hb with hb | hb
    · have := hc b hb
      have := hpn a ha n (by simp)
      omega
    · exact hpn a ha b (by simp [hb])
  · rw [memR_append, memR_append, memR_append, memR_cons, hm]
    cases hi : inR r i
    · cases memR p i <;> cases inR n i <;> cases memR q i <;> rfl
    · have hri := inR_iff.1 hi
      have hni : inR n i = true := inR_iff.2 ⟨by omega, by omega⟩
      have g1 : memR p i = false := by
        cases hm : memR p i
        · rfl
        · have := apt_before h hm
          omega
      have g2 : memR q i = false := by
        cases hm : memR q i
        · rfl
        · have := apt_gap h.right hm
          omega
      rw [hni, g1, g2]
      rfl
  · rw [sumR_append, sumR_append, sumR_append, sumR_cons]
    have : sumR (cutM n r) = n.2 - r.2 := by
      unfold cutM
      split <;> split <;> simp [sumR] <;> omega
    omega

theorem apt_two {l : List Rn} (h : Apt l) {a b : Rn} (ha : a ∈ l) (hb : b ∈ l) : a = b ∨ a.1 + a.2 < b.1 ∨ b.1 + b.2 < a.1 := by
  obtain ⟨i, hi, rfl⟩ := List.getElem_of_mem ha
  obtain ⟨j, hj, rfl⟩ := List.getElem_of_mem hb
  have hp := List.pairwise_iff_getElem.1 h.2
  rcases Nat.lt_trichotomy i j with hl | hl | hl
  · exact .inr (.inl (hp i j hi hj hl))
  · subst hl; exact .inl rfl
  · exact .inr (.inr (hp j i hj hi hl))
/-- A run whose numbers are all there lies in one. -/
theorem apt_all {l : List Rn} (h : Apt l) {r : Rn} (hr : 1 ≤ r.2) (hall : ∀ i, inR r i = true → memR l i = true) : ∃ n ∈ l, n.1 ≤ r.1 ∧ r.1 + r.2 ≤ n.1 + n.2 := by
  obtain ⟨n, hn, hi⟩ := List.any_eq_true.1 (hall r.1 (inR_iff.2 ⟨by omega, by omega⟩))
  have h1 := inR_iff.1 hi
  refine ⟨n, hn, by omega, ?_⟩
  rcases Int.lt_or_le (n.1 + n.2) (r.1 + r.2) with hl | hl
  · exfalso
    obtain ⟨m, hm, hi2⟩ := List.any_eq_true.1 (hall (n.1 + n.2) (inR_iff.2 ⟨by omega, by omega⟩))
    have h2 := inR_iff.1 hi2
    have h3 := h.1 n hn
    rcases apt_two h hn hm with rfl | h4 | h4 <;> omega
  · exact hl
theorem apt_find {l : List Rn} (h : Apt l) {n : Rn} (hn : n ∈ l) {i : Int} (hi : inR n i = true) : l.find? (fun r => inR r i) = some n := by
  cases hf : l.find? (fun r => inR r i) with
  | none => exact absurd hi (by simpa using List.find?_eq_none.1 hf n hn)
  | some m =>
    have h1 := inR_iff.1 (List.find?_some (p := fun r => inR r i) hf)
    have h2 := inR_iff.1 hi
    rcases apt_two h (List.mem_of_find?_eq_some hf) hn with rfl | h4 | h4
    · rfl
    · omega
    · omega

/-- The first run, ahead of all. -/
theorem apt_head {l : List Rn} (h : GoodR l) : Apt ((-2, 1) :: l) :=
  ⟨fun r hr => by
    rcases List.mem_cons.1 hr with rfl | hr
    · decide
    · exact h.1.1 r hr, List.pairwise_cons.2 ⟨fun z hz => by have := good_bd h hz; dsimp only; omega, h.1.2⟩⟩
theorem good_of_head {l : List Rn} (h : Apt ((-2, 1) :: l)) (hm : ∀ i, memR l i = true → i < 65536) : GoodR l :=
  ⟨h.tail, fun i hi => ⟨by have := apt_gap h hi; dsimp only at this; omega, hm i hi⟩⟩
theorem jn_hd (r : Rn) (q : List Rn) : ∃ z t, jnR (r :: q) = z :: t ∧ z.1 = r.1 := by
  cases q with
  | nil => exact ⟨_, _, rfl, rfl⟩
  | cons y t =>
    rw [jnR_two]
    split
    · exact ⟨_, _, rfl, rfl⟩
    · exact ⟨_, _, rfl, rfl⟩
/-- What Add makes of a good row. -/
theorem ins_good {l p q : List Rn} {x r : Rn} (hl : GoodR l) (he : (-2, 1) :: l = p ++ x :: q) (h0 : 0 ≤ r.1) (hr : 1 ≤ r.2) (hb : r.1 + r.2 ≤ 65536) (h1 : x.1 + x.2 ≤ r.1) (h2 : ∀ y ∈ q, r.1 + r.2 ≤ y.1) :
    ∃ l', insR p q x r = (-2, 1) :: l' ∧ GoodR l' ∧ (∀ i, memR l' i = (memR l i || inR r i)) ∧ sumR l' = sumR l + r.2 := by
  have ha := apt_head hl
  obtain ⟨f1, f2, f3⟩ := ins_facts (he ▸ ha) hr h1 h2
  rw [← he] at f2 f3
  obtain ⟨l', hl'⟩ : ∃ l', insR p q x r = (-2, 1) :: l' := by
    cases p with
    | nil =>
      simp at he
      obtain ⟨z, t, hz, hz1⟩ := jn_hd r q
      obtain ⟨rfl, rfl⟩ := he
      refine ⟨z :: t, ?_⟩
      unfold insR
      rw [hz, List.nil_append]
      rw [jnR_two, if_neg (by dsimp only; omega)]
    | cons y p =>
      simp at he
      obtain ⟨rfl, _⟩ := he
      exact ⟨_, rfl⟩
  rw [hl'] at f1 f2 f3
  have hmem : ∀ i, memR l' i = (memR l i || inR r i) := fun i => by
    have h3 := f2 i
    rw [memR_cons, memR_cons] at h3
    cases hi : inR (-2, 1) i
    · rw [hi] at h3
      simpa using h3
    · have h4 := inR_iff.1 hi
      dsimp only at h4
      have g1 : memR l' i = false := by
        cases hm : memR l' i
        · rfl
        · have := apt_gap f1 hm
          dsimp only at this
          omega
      have g2 : memR l i = false := by
        cases hm : memR l i
        · rfl
        · have := hl.2 i hm
          omega
      have g3 : inR r i = false := by
        cases hm : inR r i
        · rfl
        · have := inR_iff.1 hm
          omega
      rw [g1, g2, g3]
      rfl
  refine ⟨l', hl', good_of_head f1 (fun i hi => ?_), hmem, by rw [sumR_cons, sumR_cons] at f3; omega⟩
  rw [hmem, Bool.or_eq_true] at hi
  rcases hi with hi | hi
  · exact (hl.2 i hi).2
  · have := inR_iff.1 hi
    omega
/-- What Cut makes of a good row. -/
theorem cut_good {l p q : List Rn} {n r : Rn} (hl : GoodR l) (he : l = p ++ n :: q) (hr : 1 ≤ r.2) (h1 : n.1 ≤ r.1) (h2 : r.1 + r.2 ≤ n.1 + n.2) :
    GoodR (p ++ (cutM n r ++ q)) ∧ (∀ i, memR (p ++ (cutM n r ++ q)) i = (memR l i && !inR r i)) ∧ sumR (p ++ (cutM n r ++ q)) = sumR l - r.2 := by
  subst he
  obtain ⟨f1, f2, f3⟩ := cut_facts hl.1 hr h1 h2
  refine ⟨⟨f1, fun i hi => ?_⟩, f2, f3⟩
  rw [f2, Bool.and_eq_true] at hi
  exact hl.2 i hi.1
end Go.Proofs.Ytpkbmdibiefbdaa
