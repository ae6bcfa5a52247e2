/- Tables of types, as plain functions. Nothing of the program. -/
import Derived.Test.YtnooiiojlkkpeaaL13
set_option linter.unusedVariables false
set_option linter.unusedSimpArgs false
namespace Go.Proofs.Ytnooiiojlkkpeaa.L13
open L02 L05

/-- the two words of type number i -/
def ta (l : List UInt64) (i : Nat) : UInt64 := l.getD (96 + 2 * i) 0
def tb (l : List UInt64) (i : Nat) : UInt64 := l.getD (97 + 2 * i) 0
def TyOk (l : List UInt64) (n i : Nat) : Prop := if i < n then RdOk (ta l i) (tb l i) else ta l i = 0 ∧ tb l i = 0
instance (l : List UInt64) (n i : Nat) : Decidable (TyOk l n i) := inferInstanceAs (Decidable (if i < n then RdOk (ta l i) (tb l i) else ta l i = 0 ∧ tb l i = 0))
def TysOk (l : List UInt64) (n : Nat) : Prop := ∀ i, i < 8 → TyOk l n i
instance (l : List UInt64) (n : Nat) : Decidable (TysOk l n) := inferInstanceAs (Decidable (∀ i, i < 8 → TyOk l n i))
def tysTo (l : List UInt64) (k : Nat) : List (List UInt8) := (List.range k).map fun i => rdL (ta l i) (tb l i)
def tys (l : List UInt64) (n : Nat) : List (List UInt8) := if TysOk l n then tysTo l n else []
def tabErr (l : List UInt64) (n : Int) : Int := if SizeOk l.length then (if 0 ≤ n ∧ n ≤ 8 then (if TysOk l n.toNat then 0 else 50) else 2) else 8
def tabT (l : List UInt64) (n : Int) : List (List UInt8) := if tabErr l n = 0 then tysTo l n.toNat else []
theorem tysTo_succ (l : List UInt64) (k : Nat) : tysTo l (k + 1) = tysTo l k ++ [rdL (ta l k) (tb l k)] := by
  unfold tysTo
  rw [List.range_succ, List.map_append]; rfl
theorem tysTo_len (l : List UInt64) (k : Nat) : (tysTo l k).length = k := by simp [tysTo]
theorem ta_of {l : List UInt64} {i : Nat} {x : UInt64} (h : l[96 + 2 * i]? = some x) : ta l i = x := by simp [ta, List.getD_eq_getElem?_getD, h]
theorem tb_of {l : List UInt64} {i : Nat} {x : UInt64} (h : l[97 + 2 * i]? = some x) : tb l i = x := by simp [tb, List.getD_eq_getElem?_getD, h]
theorem rdE_ok {a b : UInt64} : rdE a b = 0 ↔ RdOk a b := by
  unfold rdE
  split <;> simp_all
theorem not_tys {l : List UInt64} {n i : Nat} (hi : i < 8) (h : ¬ TyOk l n i) : ¬ TysOk l n := fun ha => h (ha i hi)
theorem tys_of {l : List UInt64} {n : Nat} (h : ∀ i, i < 8 → TyOk l n i) : TysOk l n := h
end Go.Proofs.Ytnooiiojlkkpeaa.L13
