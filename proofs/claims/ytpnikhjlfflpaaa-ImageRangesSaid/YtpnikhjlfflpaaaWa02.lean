/- The walks of the laws ImageDiffs, ImageRanges. -/
import Derived.Test.YtpnikhjlfflpaaaC02d
set_option linter.unusedVariables false
set_option linter.unusedSimpArgs false
namespace Go.Proofs.Ytpnikhjlfflpaaa
open Go.RowKit L02

set_option maxHeartbeats 1000000 in
theorem ImageDiffs_walk (a0 : Int) (v1 : Value) (l1 : List UInt64) (v2 : Value) (l2 : List UInt64) (w : World) (h0 : -9223372036854775808 ≤ a0 ∧ a0 ≤ 9223372036854775807) (h1 : Words w v1 l1) (h2 : Words w v2 l2) :
    Calls Try.prog 3 #[.int .i64 a0, v1, v2] w fun e w' => e = .returned (.bool true) ∧ Below w.heap.size w w' := by
  have B : Below w.heap.size w w := Below.refl _ _
  by_cases g1 : 2100 < l1.length
  · go_enter Try.func3, Try.ntmps3
    go_wp2_with fail
    refine (Great_any _ _ _ h1).mono ?_
    rw [decide_eq_true g1]
    rintro e w' ⟨rfl, rfl⟩
    go_wp2
    go_ret
    exact ⟨rfl, B⟩
  by_cases g2 : 2100 < l2.length
  · go_enter Try.func3, Try.ntmps3
    go_wp2_with fail
    refine (Great_any _ _ _ h1).mono ?_
    rw [decide_eq_false g1]
    rintro e w' ⟨rfl, rfl⟩
    go_wp2_with fail
    refine (Great_any _ _ _ h2).mono ?_
    rw [decide_eq_true g2]
    rintro e w' ⟨rfl, rfl⟩
    go_wp2
    go_ret
    exact ⟨rfl, B⟩
  go_enter Try.func3, Try.ntmps3
  go_wp2_with fail
  refine (Great_any _ _ _ h1).mono ?_
  rw [decide_eq_false g1]
  rintro e w' ⟨rfl, rfl⟩
  go_wp2_with fail
  refine (Great_any _ _ _ h2).mono ?_
  rw [decide_eq_false g2]
  rintro e w' ⟨rfl, rfl⟩
  go_wp2_with fail
  refine (New_any _ _).mono ?_
  rintro e w' ⟨x1, rfl, o, b⟩
  have r1 := o.rd; replace h1 := h1.below b; replace h2 := h2.below b; replace B := B.trans (b.mono B.size); clear o b
  go_wp2_with fail
  refine (NewR_any _ _).mono ?_
  rintro e w' ⟨x2, rfl, o, b⟩
  have r2 := o.rd; replace h1 := h1.below b; replace h2 := h2.below b; replace r1 := r1.below b; replace B := B.trans (b.mono B.size); clear o b
  go_wp2_with fail
  refine (Diff_any _ _ _ _ _ h1 h2).mono ?_
  rintro e w' ⟨x3, rfl, o, b⟩
  have r3 := o.rd; replace h1 := h1.below b; replace h2 := h2.below b; replace r1 := r1.below b; replace r2 := r2.below b; replace B := B.trans (b.mono B.size); clear o b
  go_wp2_with fail
  refine (DiffR_any _ _ _ _ _ h1 h2).mono ?_
  rintro e w' ⟨x4, rfl, o, b⟩
  have r4 := o.rd; replace r1 := r1.below b; replace r2 := r2.below b; replace r3 := r3.below b; replace B := B.trans (b.mono B.size); clear o b
  go_wp2_with fail
  refine (Same_any _ _ _ _ _ r1 r2).mono ?_
  rw [same_refl]
  rintro e w' ⟨rfl, q⟩
  have b := q.below; replace r3 := r3.below b; replace r4 := r4.below b; replace B := B.trans (b.mono B.size); clear q b
  go_wp2_with fail
  refine (SameInts_any _ _ _ _ _ r3 r4).mono ?_
  rw [sameI_refl]
  rintro e w' ⟨rfl, q⟩
  have b := q.below; replace B := B.trans (b.mono B.size); clear q b
  go_wp2
  go_ret
  exact ⟨rfl, B⟩

set_option maxHeartbeats 1000000 in
theorem ImageRanges_walk (v0 : Value) (l0 : List UInt64) (at_ n : Int) (v3 : Value) (l3 : List UInt64) (w : World) (h0 : Words w v0 l0)
    (h1 : -9223372036854775808 ≤ at_ ∧ at_ ≤ 9223372036854775807) (h2 : -9223372036854775808 ≤ n ∧ n ≤ 9223372036854775807) (h3 : Words w v3 l3) :
    Calls Try.prog 4 #[v0, .int .i64 at_, .int .i64 n, v3] w fun e w' => e = .returned (.bool true) ∧ Below w.heap.size w w' := by
  have B : Below w.heap.size w w := Below.refl _ _
  clear h1 h2
  by_cases g1 : 2100 < l0.length
  · go_enter Try.func4, Try.ntmps4
    go_wp2_with fail
    refine (Great_any _ _ _ h0).mono ?_
    rw [decide_eq_true g1]
    rintro e w' ⟨rfl, rfl⟩
    go_wp2
    go_ret
    exact ⟨rfl, B⟩
  by_cases g2 : 2100 < l3.length
  · go_enter Try.func4, Try.ntmps4
    go_wp2_with fail
    refine (Great_any _ _ _ h0).mono ?_
    rw [decide_eq_false g1]
    rintro e w' ⟨rfl, rfl⟩
    go_wp2_with fail
    refine (Great_any _ _ _ h3).mono ?_
    rw [decide_eq_true g2]
    rintro e w' ⟨rfl, rfl⟩
    go_wp2
    go_ret
    exact ⟨rfl, B⟩
  go_enter Try.func4, Try.ntmps4
  go_wp2_with fail
  refine (Great_any _ _ _ h0).mono ?_
  rw [decide_eq_false g1]
  rintro e w' ⟨rfl, rfl⟩
  go_wp2_with fail
  refine (Great_any _ _ _ h3).mono ?_
  rw [decide_eq_false g2]
  rintro e w' ⟨rfl, rfl⟩
  go_wp2_with fail
  refine (Twin_any _ _ _ h0 (by omega)).mono ?_
  rintro e w' ⟨x1, rfl, o, b⟩
  have r1 := o.rd; replace h0 := h0.below b; replace h3 := h3.below b; replace B := B.trans (b.mono B.size); clear o b
  go_wp2_with fail
  refine (Twin_any _ _ _ h3 (by omega)).mono ?_
  rintro e w' ⟨x2, rfl, o, b⟩
  have r2 := o.rd; replace h0 := h0.below b; replace h3 := h3.below b; replace r1 := r1.below b; replace B := B.trans (b.mono B.size); clear o b
  go_wp2_with fail
  refine (Get_any _ _ _ _ _ r1).mono ?_
  rintro e w' ⟨x3, rfl, o, b⟩
  have r3 := o.rd; replace h0 := h0.below b; replace h3 := h3.below b; replace r1 := r1.below b; replace r2 := r2.below b; replace B := B.trans (b.mono B.size); clear o b
  go_wp2_with fail
  refine (GetR_any _ _ _ _ _ h0).mono ?_
  rintro e w' ⟨x4, rfl, o, b⟩
  have r4 := o.rd; replace h0 := h0.below b; replace h3 := h3.below b; replace r1 := r1.below b; replace r2 := r2.below b; replace r3 := r3.below b; replace B := B.trans (b.mono B.size); clear o b
  go_wp2_with fail
  refine (Put_any _ _ _ _ _ _ r1 r2).mono ?_
  rintro e w' ⟨x5, rfl, o, b⟩
  have r5 := o.rd; replace h0 := h0.below b; replace h3 := h3.below b; replace r1 := r1.below b; replace r2 := r2.below b; replace r3 := r3.below b; replace r4 := r4.below b; replace B := B.trans (b.mono B.size); clear o b
  go_wp2_with fail
  refine (PutR_any _ _ _ _ _ _ h0 h3).mono ?_
  rintro e w' ⟨x6, rfl, o, b⟩
  have r6 := o.rd; replace h0 := h0.below b; replace h3 := h3.below b; replace r1 := r1.below b; replace r2 := r2.below b; replace r3 := r3.below b; replace r4 := r4.below b; replace r5 := r5.below b; replace B := B.trans (b.mono B.size); clear o b
  go_wp2_with fail
  refine (Line_any _ _ _ _ r1).mono ?_
  rintro e w' ⟨rfl, rfl⟩
  go_wp2_with fail
  refine (LineR_any _ _ _ _ h0).mono ?_
  rintro e w' ⟨rfl, rfl⟩
  go_wp2_with fail
  refine (Check_any _ _ _ r1).mono ?_
  rintro e w' ⟨rfl, rfl⟩
  go_wp2_with fail
  refine (CheckR_any _ _ _ h0).mono ?_
  rintro e w' ⟨rfl, rfl⟩
  go_wp2_with fail
  refine (Same_any _ _ _ _ _ r3 r4).mono ?_
  rw [same_refl]
  rintro e w' ⟨rfl, q⟩
  have b := q.below; replace h0 := h0.below b; replace h3 := h3.below b; replace r1 := r1.below b; replace r2 := r2.below b; replace r5 := r5.below b; replace r6 := r6.below b; replace B := B.trans (b.mono B.size); clear q b
  go_wp2_with fail
  refine (Same_any _ _ _ _ _ r5 r6).mono ?_
  rw [same_refl]
  rintro e w' ⟨rfl, q⟩
  have b := q.below; replace h0 := h0.below b; replace h3 := h3.below b; replace r1 := r1.below b; replace r2 := r2.below b; replace B := B.trans (b.mono B.size); clear q b
  go_wp2_with fail
  refine (Same_any _ _ _ _ _ r1 h0).mono ?_
  rw [same_refl]
  rintro e w' ⟨rfl, q⟩
  have b := q.below; replace h3 := h3.below b; replace r2 := r2.below b; replace B := B.trans (b.mono B.size); clear q b
  go_wp2_with fail
  refine (Same_any _ _ _ _ _ r2 h3).mono ?_
  rw [same_refl]
  rintro e w' ⟨rfl, q⟩
  have b := q.below; replace B := B.trans (b.mono B.size); clear q b
  go_wp2
  go_ret
  exact ⟨rfl, B⟩
end Go.Proofs.Ytpnikhjlfflpaaa
