/- Arenas: Copy; no arena; the chapter's examples. -/
import Derived.Test.YtehicgndccnopaaArenaD
import Derived.Test.YtehicgndccnopaaSameW
namespace Go.Proofs.Ytehicgndccnopaa
open Go.RowKit
set_option linter.unusedVariables false
set_option linter.unusedSimpArgs false

theorem own_blk {w : World} {base : Nat} {e : TypeId} {v : Value} {n : Nat} {xs : List Value} (h : w.ownsRow base e 1 v n xs) (hn : 0 < n) :
    ∃ g rs, v = .slice (some ⟨g, 0, none⟩) n (n + rs.length) ∧ base ≤ g ∧ Blk w g e (xs ++ rs).toArray := by
  obtain ⟨hl, h2⟩ := h
  rcases h2 with ⟨_, h0⟩ | ⟨g, cap, cur, rfl, hb, hg, h1, _, hs, ht⟩
  · omega
  · refine ⟨g, cur.toList.drop n, ?_, hb, ?_⟩
    · have : (cur.toList.drop n).length = cap - n := by simp [hs]
      rw [this]
      congr 1
      omega
    · unfold Blk
      rw [hg, ← ht]
      simp

/-- What Copy gives. -/
def GivesCopy (ws : List Int) (c : Nat) (w : World) (e : Ending) (w' : World) : Prop :=
  ∃ bs br rs, e = .returned (.pointer (some ⟨bs, 0, none⟩)) ∧ IsAr w' bs br ws rs c ∧ w.heap.size ≤ bs ∧ w.heap.size ≤ br ∧ Below w.heap.size w w'

set_option maxHeartbeats 1000000 in
theorem copy_any (w : World) (bs br : Nat) (ws : List Int) (rs : List Value) (c : Nat) (h : IsAr w bs br ws rs c) : Calls Try.prog 39 #[.pointer (some ⟨bs, 0, none⟩)] w (GivesCopy ws c w) := by
  obtain ⟨c0, c1⟩ := h.s.c2
  have hR := Lib.hid h.reads
  have hlo := h.lo
  have hhi := h.hi
  have HI := Lib.hid h
  clear h
  go_enter Try.func39, Try.ntmps39
  go_wp2_with fail
  go_region_held3 (fun w' => w'.cell? ⟨bs, 0, none⟩ = some (.slice (some ⟨br, 0, none⟩) ws.length (ws.length + rs.length)) ∧ w'.cell? ⟨bs, 1, none⟩ = some (.int .u64 (c : Int))) (go_keep)
    (first | (go_at_call 64; refine (clone_any _ ⟨br, 0, none⟩ ws.length (ws.length + rs.length) ws (by exact hR.out) (by omega)).mono ?_; rintro e w1 ⟨v, rfl, hown, hb⟩; obtain ⟨g, rs', hv, hg, hB⟩ := own_blk hown (by omega); rw [hv]; obtain ⟨d0, d1⟩ := (HI.out.s.drew.nx hb).c2))
  go_wp2
  go_ret
  refine ⟨w1.heap.size, g, rs', rfl, ⟨Blk.new w1 _ _, hB.alloc _, ?_, hlo, hhi⟩, hb.size, hg, balloc (bnext ((Below.refl _ w).drew) hb) _⟩
  have := hB.lt
  omega
end Go.Proofs.Ytehicgndccnopaa
