/- Headers of tables: contracts of head.Of, Fits and the document's, over a table or none. -/
import Derived.Test.YtmjkohjijoddaaaDoorHeadQ
namespace Go.Proofs.YtmjkohjijoddaaaDoor
open Go.RowKit
set_option linter.unusedVariables false
set_option linter.unusedSimpArgs false

theorem IsTb.at_ {w w' : World} {B tb g : Nat} {v : Value} {ts : List Ty} (h : IsTb w B tb g v ts) (hb : Below w.heap.size w w') : IsTb w' B tb g v ts := h.nx hb

section
variable (w : World) (B tb g : Nat) (v : Value) (ts : List Ty) (h : IsTb w B tb g v ts) (hok : ∀ t ∈ ts, OkW t)
include h hok
theorem headOf_any (id n : Int) (i0 : -9223372036854775808 ≤ id) (i1 : id ≤ 9223372036854775807) :
    Calls Tryd.prog 28 #[.pointer (some ⟨tb, 0, none⟩), .int .i64 id, .int .i64 n] w (GivesHead (szE ts id n) id n (szG ts id n) w) :=
  headOf_gen w _ id n _ _ fun W hW => sizeT_any W B tb g v ts (h.nx hW) hok id n i0 i1
theorem headFits_any (hF : Flds w) (tg ty ln sz : Int) (i0 : -9223372036854775808 ≤ ty) (i1 : ty ≤ 9223372036854775807) :
    Calls Tryd.prog 30 #[.pointer (some ⟨tb, 0, none⟩), .agg #[.int .u8 tg, .int .i64 ty, .int .i64 ln, .int .i64 sz]] w fun e w' => e = .returned (.int .i64 (fitV (szE ts ty ln) (szG ts ty ln) tg ty ln sz)) ∧ Below w.heap.size w w' :=
  headFits_gen w _ tg ty ln sz _ _ hF fun W hW => headOf_any W B tb g v ts (h.nx hW) hok ty ln i0 i1
end
section
variable (w : World) (A : Option Addr) (m c : Nat) (ts : List Ty) (hr : Reads w w.heap.size 3 A m (ts.flatMap tyC)) (hl : ts.length = m) (hok : ∀ t ∈ ts, OkW t) (hm : m ≤ 1000000)
include hr hl hok hm
theorem refOf_any (id n : Int) (i0 : -9223372036854775808 ≤ id) (i1 : id ≤ 9223372036854775807) :
    Calls Tryd.prog 32 #[.slice A m c, .int .i64 id, .int .i64 n] w (GivesHead (szE ts id n) id n (szG ts id n) w) :=
  refOf_gen w A m c id n _ _ fun W hW => rsizeT_any W A m c ts ((hr.below hW).more hW.size) hl hok hm id n i0 i1
theorem refFits_any (tg ty ln sz : Int) (i0 : -9223372036854775808 ≤ ty) (i1 : ty ≤ 9223372036854775807) :
    Calls Tryd.prog 29 #[.slice A m c, .agg #[.int .u8 tg, .int .i64 ty, .int .i64 ln, .int .i64 sz]] w fun e w' => e = .returned (.int .i64 (fitV (szE ts ty ln) (szG ts ty ln) tg ty ln sz)) ∧ Below w.heap.size w w' :=
  refFits_gen w A m c tg ty ln sz _ _ fun W hW => refOf_any W A m c ts ((hr.below hW).more hW.size) hl hok hm ty ln i0 i1
end
theorem headOf_nil (w : World) (id n : Int) : Calls Tryd.prog 28 #[.pointer none, .int .i64 id, .int .i64 n] w (GivesHead 1 id n 0 w) :=
  headOf_gen w none id n 1 0 fun W _ => sizeT_nil W id n
theorem headFits_nil (w : World) (hF : Flds w) (tg ty ln sz : Int) :
    Calls Tryd.prog 30 #[.pointer none, .agg #[.int .u8 tg, .int .i64 ty, .int .i64 ln, .int .i64 sz]] w fun e w' => e = .returned (.int .i64 (fitV 1 0 tg ty ln sz)) ∧ Below w.heap.size w w' :=
  headFits_gen w none tg ty ln sz 1 0 hF fun W _ => headOf_nil W ty ln
theorem fitV_ne {E E' G G' tg ty ln sz : Int} (h : E ≠ 0) (h' : E' ≠ 0) : fitV E G tg ty ln sz = fitV E' G' tg ty ln sz := by simp [fitV, h, h']
theorem szE_nil (id n : Int) : szE [] id n = 3 := by
  have : inT [] id = false := by simp [inT]; omega
  simp [szE, this]
end Go.Proofs.YtmjkohjijoddaaaDoor
