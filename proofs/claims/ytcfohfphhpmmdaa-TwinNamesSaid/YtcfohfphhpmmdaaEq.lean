/- '==' on arrays of words. Nothing of the program. -/
import Derived.Test.YtcfohfphhpmmdaaOps
import Derived.ChangeKeysEq
set_option linter.unusedVariables false
set_option linter.unusedSimpArgs false
namespace Go.Proofs.Ytcfohfphhpmmdaa
open Go.RowKit

section
variable {P : Program}
theorem run_eqItems_words (d : Nat) {e : TypeId} (he : P.underlying e = some (.int .u64)) (hp : ∀ (X : Array Value) (j : Nat) (u : Value) (w : World), X[j]? = some u → (part e X j).run P w = .ok u w) :
    ∀ (m k : Nat) (l1 l2 : List UInt64) (w : World), k + m ≤ l1.length → k + m ≤ l2.length →
    (Op.eqItems (d + 1) e 1 (l1.map u64).toArray (l2.map u64).toArray (List.range' k m)).run P w = .ok (decide ((l1.drop k).take m = (l2.drop k).take m)) w
  | 0, k, l1, l2, w, _, _ => by simp [Op.eqItems]
  | m + 1, k, l1, l2, w, h1, h2 => by
    have e1 : (l1.map u64).toArray[k]? = some (u64 (l1[k]'(by omega))) := by simp [show k < l1.length by omega]
    have e2 : (l2.map u64).toArray[k]? = some (u64 (l2[k]'(by omega))) := by simp [show k < l2.length by omega]
    have ih := run_eqItems_words d he hp m (k + 1) l1 l2 w (by omega) (by omega)
    rw [List.range'_succ]
    simp only [Op.eqItems, Nat.mul_one, Sem.run_bind, hp _ _ _ _ e1, hp _ _ _ _ e2, Result.andThen_ok]
    rw [show (Op.equalIn (d + 1) e (u64 (l1[k]'(by omega))) (u64 (l2[k]'(by omega)))).run P w = .ok (((l1[k]'(by omega)).toNat : Int) == ((l2[k]'(by omega)).toNat : Int)) w from run_equalIn_int w d e .u64 .u64 _ _ he]
    rw [List.drop_eq_getElem_cons (show k < l1.length by omega), List.drop_eq_getElem_cons (show k < l2.length by omega), List.take_succ_cons, List.take_succ_cons]
    by_cases hx : l1[k]'(by omega) = l2[k]'(by omega)
    · have t1 : (((l1[k]'(by omega)).toNat : Int) == ((l2[k]'(by omega)).toNat : Int)) = true := by rw [hx]; simp
      rw [t1]
      simp only [Result.andThen_ok, Bool.not_true, Bool.false_eq_true, if_false]
      rw [ih, hx]
      simp
    · have t1 : (((l1[k]'(by omega)).toNat : Int) == ((l2[k]'(by omega)).toNat : Int)) = false := by
        rw [beq_eq_false_iff_ne]; intro h; exact hx (UInt64.toNat_inj.1 (by omega))
      rw [t1]
      simp [hx]
theorem run_neq_words {t e : TypeId} {n : Nat} (ht : P.underlying t = some (.array n e)) (hi : (P.info? e).isSome = true) (he : P.underlying e = some (.int .u64)) (hc : P.cellsOf e = 1)
    (hp : ∀ (X : Array Value) (j : Nat) (u : Value) (w : World), X[j]? = some u → (part e X j).run P w = .ok u w)
    (l1 l2 : List UInt64) (h1 : l1.length = n) (h2 : l2.length = n) (w : World) : (binOp .neq t (.agg (l1.map u64).toArray) (.agg (l2.map u64).toArray)).run P w = .ok (.bool (!decide (l1 = l2))) w := by
  obtain ⟨i, hi⟩ := Option.isSome_iff_exists.1 hi
  rw [run_neq_struct, run_equalIn_array (w := w) 9999 _ _ ht hi, hc, List.range_eq_range', run_eqItems_words 9998 he hp n 0 l1 l2 w (by omega) (by omega)]
  simp only [List.drop_zero, Result.andThen_ok]
  rw [List.take_of_length_le (by omega), List.take_of_length_le (by omega)]
theorem run_eql_words {t e : TypeId} {n : Nat} (ht : P.underlying t = some (.array n e)) (hi : (P.info? e).isSome = true) (he : P.underlying e = some (.int .u64)) (hc : P.cellsOf e = 1)
    (hp : ∀ (X : Array Value) (j : Nat) (u : Value) (w : World), X[j]? = some u → (part e X j).run P w = .ok u w)
    (l1 l2 : List UInt64) (h1 : l1.length = n) (h2 : l2.length = n) (w : World) : (binOp .eql t (.agg (l1.map u64).toArray) (.agg (l2.map u64).toArray)).run P w = .ok (.bool (decide (l1 = l2))) w := by
  obtain ⟨i, hi⟩ := Option.isSome_iff_exists.1 hi
  rw [run_eql_struct, run_equalIn_array (w := w) 9999 _ _ ht hi, hc, List.range_eq_range', run_eqItems_words 9998 he hp n 0 l1 l2 w (by omega) (by omega)]
  simp only [List.drop_zero, Result.andThen_ok]
  rw [List.take_of_length_le (by omega), List.take_of_length_le (by omega)]
end
end Go.Proofs.Ytcfohfphhpmmdaa
