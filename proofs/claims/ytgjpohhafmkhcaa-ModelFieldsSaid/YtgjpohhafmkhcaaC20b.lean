/- Contracts of models: floats, slots, objects. -/
import Derived.Test.YtgjpohhafmkhcaaC20
set_option linter.unusedVariables false
set_option linter.unusedSimpArgs false
namespace Go.Proofs.Ytgjpohhafmkhcaa
open Go.RowKit L02 L13 L18 L20

set_option maxHeartbeats 1000000 in
theorem float_any (x : UInt64) (b : Bool) (hb : b = decide (FloatOk x)) (w : World) : Calls Try.prog 41 #[.int .u64 x.toNat] w fun e w' => e = .returned (.bool b) ∧ Below w.heap.size w w' := by
  have B : Below w.heap.size w w := Below.refl _ _
  have hxl := toNat_lt x
  have e1 := and_int (a := (x.toNat : Int) / 4503599627370496) 11 (by omega) (by omega) 2047 (by decide) (by omega)
  rw [show ((2 ^ 11 : Nat) : Int) = 2048 from rfl] at e1
  have hwr : IntKind.u64.wrap ((x.toNat : Int) * 4096) = (x.toNat : Int) * 4096 % 18446744073709551616 := rfl
  have HB := Lib.hid hb; clear hb
  go_enter Try.func41, Try.ntmps41
  go_wp2
  all_goals
    go_ret
    refine ⟨ret_bool ?_, B⟩
    rw [HB.out]
    first
      | (rw [eq_comm, decide_eq_true_iff]; unfold FloatOk; omega)
      | (rw [Bool.eq_iff_iff, decide_eq_true_iff]; simp only [Bool.or_eq_true, beq_iff_eq]; unfold FloatOk; omega)

set_option maxHeartbeats 1000000 in
theorem FloatR_any (x : UInt64) (b : Bool) (hb : b = decide (FloatOk x)) (w : World) : Calls Try.prog 42 #[.int .u64 x.toNat] w fun e w' => e = .returned (.bool b) ∧ Below w.heap.size w w' := by
  have B : Below w.heap.size w w := Below.refl _ _
  have HB := Lib.hid hb; clear hb
  go_enter Try.func42, Try.ntmps42
  go_wp2
  all_goals
    go_ret
    refine ⟨ret_bool ?_, B⟩
    rw [HB.out]
    rename_i hcase
    first
      | (rw [beq_iff_eq] at hcase; rw [eq_comm, decide_eq_true_iff]; unfold FloatOk; omega)
      | (rw [beq_eq_false_iff_ne] at hcase; rw [Bool.eq_iff_iff, decide_eq_true_iff, decide_eq_true_iff]; unfold FloatOk; omega)

set_option maxHeartbeats 1000000 in
theorem slot_any (tv ov sv : Value) (m : Mo) (s : Sl) (b : Bool) (hb : b = decide (SlOk m.objs.length s)) (w : World) (h : Mod w tv ov sv m) :
    Calls Try.prog 61 #[.agg #[tv, ov, sv], .agg #[.int .i64 s.gen, .bool s.used, .int .i64 s.at_]] w fun e w' => e = .returned (.bool b) ∧ Below w.heap.size w w' := by
  have B : Below w.heap.size w w := Below.refl _ _
  have lo := h.o.len
  have HB := Lib.hid hb; clear hb
  obtain ⟨N, hN⟩ : ∃ N, N = m.objs.length := ⟨_, rfl⟩
  rw [← hN] at lo HB
  clear h hN
  obtain ⟨g, u, a⟩ := s
  dsimp only at *
  cases u
  all_goals
    go_enter Try.func61, Try.ntmps61
    go_wp2
    all_goals
      go_ret
      refine ⟨ret_bool ?_, ?_⟩
      · rw [HB.out]
        exact bool_dec (by simp [SlOk]; try omega)
      · skip
        (repeat (first | refine Below.setCell ?_ (by first | exact Nat.le_refl _ | (simp <;> omega)) _ | refine Below.alloc ?_ (by first | exact B.size | (have := B.size; simp <;> omega)) _)); exact B
end Go.Proofs.Ytgjpohhafmkhcaa
