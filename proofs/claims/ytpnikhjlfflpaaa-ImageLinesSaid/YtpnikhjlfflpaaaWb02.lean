/- The walks of 'alive' and of the laws ImageLines, ImageGet. -/
import Derived.Test.YtpnikhjlfflpaaaC02d
import Derived.Test.YtpnikhjlfflpaaaL02b
set_option linter.unusedVariables false
set_option linter.unusedSimpArgs false
namespace Go.Proofs.Ytpnikhjlfflpaaa
open Go.RowKit L02

def True_ (w : World) (e : Ending) (w' : World) : Prop := e = .returned (.bool true) ∧ Below w.heap.size w w'

set_option maxHeartbeats 1000000 in
theorem alive_any (w : World) : Calls Try.prog 26 #[] w (True_ w) := by
  have B : Below w.heap.size w w := Below.refl _ _
  go_enter Try.func26, Try.ntmps26
  go_wp2_with fail
  refine (New_any _ _).mono ?_
  rw [ex_new, show new 256 = ex1 from rfl]
  rintro e w1 ⟨x1, rfl, o, b⟩
  have r1 := o.rd; replace B := B.trans (b.mono B.size); clear o b
  go_wp2_with fail
  refine (Line_any _ _ _ _ r1).mono ?_
  rw [ex_no, ex_at, ex_rng]
  rintro e w' ⟨rfl, rfl⟩
  go_wp2_with fail
  have r2 := lit_words (w := w1) (cs := #[.int .u64 5, .int .u64 6]) (e := 51) [5, 6] rfl rfl (by simp)
  replace r1 := r1.alloc (.cells #[.int .u64 5, .int .u64 6] 51); replace B := B.alloc B.size (.cells #[.int .u64 5, .int .u64 6] 51)
  refine (Put_any _ _ _ _ _ _ r1 r2).mono ?_
  rw [show put ex1 9 [5, 6] = ex2 from rfl, show rng ex1 9 ([5, 6] : List UInt64).length = 0 from ex_put]
  rintro e w2 ⟨x2, rfl, o, b⟩
  have r3 := o.rd; replace r1 := r1.below b; replace B := B.trans (b.mono B.size); clear o b r2
  go_wp2_with fail
  refine (Diff_any _ _ _ _ _ r1 r3).mono ?_
  rw [ex_dif, ex_difs]
  rintro e w3 ⟨x3, rfl, o, b⟩
  have r4 := o.rd; replace B := B.trans (b.mono B.size); clear o b r1 r3
  go_wp2_with fail
  have r5 := lit_ints (w := w3) (cs := #[.int .i64 9, .int .i64 10]) (e := 3) [9, 10] rfl rfl (by simp)
  replace r4 := r4.alloc (.cells #[.int .i64 9, .int .i64 10] 3); replace B := B.alloc B.size (.cells #[.int .i64 9, .int .i64 10] 3)
  refine (SameInts_any _ _ _ _ _ r4 r5).mono ?_
  rw [sameI_refl]
  rintro e w' ⟨rfl, q⟩
  replace B := B.trans (q.below.mono B.size)
  go_wp2
  go_ret
  exact ⟨rfl, B⟩
end Go.Proofs.Ytpnikhjlfflpaaa
