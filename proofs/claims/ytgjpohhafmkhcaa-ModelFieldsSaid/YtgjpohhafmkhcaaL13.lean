/- What the functions of types compute, as plain functions. Nothing of the program. -/
import Derived.Test.YtgjpohhafmkhcaaL05
import Derived.Test.YtgjpohhafmkhcaaL02
set_option linter.unusedVariables false
set_option linter.unusedSimpArgs false
namespace Go.Proofs.Ytgjpohhafmkhcaa.L13
open L05

def kErr (l : List UInt8) : Int := if 8 < l.length then 4 else if ∀ k ∈ l, 1 ≤ k.toNat ∧ k.toNat ≤ 3 then 0 else 8
def kSize (l : List UInt8) : Int := if kErr l = 0 then 2 + ((l.length + 1) / 2 * 2 : Nat) else 0
/-- digits to the base 4, the first one the lowest -/
def fN : List UInt8 → Nat
  | [] => 0
  | k :: l => k.toNat + 4 * fN l
def firstN (l : List UInt8) : Nat := fN l * 256 + l.length
def w0 (l : List UInt8) : UInt64 := if kErr l = 0 then UInt64.ofNat (firstN l) else 0
def w1 (l : List UInt8) : UInt64 := if kErr l = 0 then sum [w0 l] else 0
def nOf (a : UInt64) : Nat := a.toNat % 256
def dig (a : UInt64) (n : Nat) : List UInt8 := (List.range n).map fun i => UInt8.ofNat (a.toNat / 256 / 4 ^ i % 4)
def RdOk (a b : UInt64) : Prop := nOf a ≤ 8 ∧ kErr (dig a (nOf a)) = 0 ∧ w0 (dig a (nOf a)) = a ∧ w1 (dig a (nOf a)) = b
instance (a b : UInt64) : Decidable (RdOk a b) := inferInstanceAs (Decidable (_ ∧ _ ∧ _ ∧ _))
def rdL (a b : UInt64) : List UInt8 := if RdOk a b then dig a (nOf a) else []
def rdE (a b : UInt64) : Int := if RdOk a b then 0 else 50

theorem kErr_ok {l : List UInt8} (h : kErr l = 0) : l.length ≤ 8 ∧ ∀ k ∈ l, 1 ≤ k.toNat ∧ k.toNat ≤ 3 := by
  unfold kErr at h
  split at h
  · omega
  · split at h
    · exact ⟨by omega, by assumption⟩
    · omega
theorem kErr_of {l : List UInt8} (h : l.length ≤ 8) (h2 : ∀ k ∈ l, 1 ≤ k.toNat ∧ k.toNat ≤ 3) : kErr l = 0 := by
  unfold kErr
  rw [if_neg (by omega), if_pos h2]
theorem kErr_many {l : List UInt8} (h : 8 < l.length) : kErr l = 4 := if_pos h
theorem kErr_bad {l : List UInt8} (h : l.length ≤ 8) {k : Nat} {x : UInt8} (hx : l[k]? = some x) (hb : ¬ (1 ≤ x.toNat ∧ x.toNat ≤ 3)) : kErr l = 8 := by
  unfold kErr
  rw [if_neg (by omega), if_neg]
  intro hall
  exact hb (hall x (List.mem_of_getElem? hx))
theorem fN_snoc : ∀ (l : List UInt8) (k : UInt8), fN (l ++ [k]) = fN l + k.toNat * 4 ^ l.length
  | [], k => by simp [fN]
  | x :: l, k => by
    rw [List.cons_append, fN, fN_snoc l k, fN, List.length_cons, Nat.pow_succ]
    have : k.toNat * (4 ^ l.length * 4) = 4 * (k.toNat * 4 ^ l.length) := by rw [← Nat.mul_assoc, Nat.mul_comm]
    omega
theorem fN_lt : ∀ (l : List UInt8), (∀ k ∈ l, k.toNat ≤ 3) → fN l < 4 ^ l.length
  | [], _ => by simp [fN]
  | x :: l, h => by
    have h1 := fN_lt l fun k hk => h k (List.mem_cons_of_mem _ hk)
    have h2 := h x List.mem_cons_self
    rw [fN, List.length_cons, Nat.pow_succ]
    omega
theorem fN_take {l : List UInt8} {k : Nat} {x : UInt8} (hx : l[k]? = some x) : fN (l.take (k + 1)) = fN (l.take k) + x.toNat * 4 ^ k := by
  have hk : k < l.length := (List.getElem?_eq_some_iff.1 hx).1
  rw [List.take_add_one, hx]
  show fN (l.take k ++ [x]) = _
  rw [fN_snoc, List.length_take, Nat.min_eq_left (by omega)]
theorem fN_drop {l : List UInt8} {k : Nat} {x : UInt8} (hx : l[k]? = some x) : fN (l.drop k) = x.toNat + 4 * fN (l.drop (k + 1)) := by
  obtain ⟨hk, rfl⟩ := List.getElem?_eq_some_iff.1 hx
  rw [List.drop_eq_getElem_cons hk, fN]
theorem pow4_le {n : Nat} (h : n ≤ 8) : 4 ^ n ≤ 65536 := Nat.pow_le_pow_right (by omega) h
theorem firstN_lt {l : List UInt8} (h : kErr l = 0) : firstN l < 16777216 := by
  obtain ⟨h1, h2⟩ := kErr_ok h
  have h3 := fN_lt l fun k hk => (h2 k hk).2
  have h4 := pow4_le h1
  unfold firstN
  omega
theorem w0_nat {l : List UInt8} (h : kErr l = 0) : (w0 l).toNat = firstN l := by
  rw [w0, if_pos h, UInt64.toNat_ofNat']
  have := firstN_lt h
  exact Nat.mod_eq_of_lt (by omega)
theorem dig_succ (a : UInt64) (n : Nat) : dig a (n + 1) = dig a n ++ [UInt8.ofNat (a.toNat / 256 / 4 ^ n % 4)] := by
  unfold dig
  rw [List.range_succ, List.map_append]; rfl
theorem dig_len (a : UInt64) (n : Nat) : (dig a n).length = n := by simp [dig]
theorem dig_le (a : UInt64) (n : Nat) : ∀ k ∈ dig a n, k.toNat ≤ 3 := by
  intro k hk
  obtain ⟨i, _, rfl⟩ := List.mem_map.1 hk
  rw [UInt8.toNat_ofNat']; omega
theorem fN_dig (a : UInt64) : ∀ n, fN (dig a n) = a.toNat / 256 % 4 ^ n
  | 0 => by simp [dig, fN, Nat.mod_one]
  | n + 1 => by
    have e : a.toNat / 256 / 4 ^ n % 4 % 256 = a.toNat / 256 / 4 ^ n % 4 := by omega
    have e2 := Nat.mod_pow_succ (b := 4) (k := n) (x := a.toNat / 256)
    rw [dig_succ, fN_snoc, fN_dig a n, dig_len, UInt8.toNat_ofNat', e2]
    rw [show (2 : Nat) ^ 8 = 256 from rfl, e, Nat.mul_comm (4 ^ n)]
/-- digits of a number that was made of digits -/
theorem fN_get : ∀ (l : List UInt8), (∀ k ∈ l, k.toNat ≤ 3) → ∀ i x, l[i]? = some x → fN l / 4 ^ i % 4 = x.toNat
  | [], _, _, _, h => by cases h
  | y :: l, h, 0, x, hx => by
    simp at hx; subst hx
    have := h y List.mem_cons_self
    simp [fN]; omega
  | y :: l, h, i + 1, x, hx => by
    have h1 := h y List.mem_cons_self
    have h2 := fN_get l (fun k hk => h k (List.mem_cons_of_mem _ hk)) i x (by simpa using hx)
    rw [fN, Nat.pow_succ, Nat.mul_comm (4 ^ i) 4, ← Nat.div_div_eq_div_mul]
    rw [show (y.toNat + 4 * fN l) / 4 = fN l by omega]
    exact h2
theorem dig_w0 {l : List UInt8} (h : kErr l = 0) : nOf (w0 l) = l.length ∧ dig (w0 l) l.length = l := by
  obtain ⟨h1, h2⟩ := kErr_ok h
  have hn := w0_nat h
  refine ⟨by unfold nOf; rw [hn]; unfold firstN; omega, ?_⟩
  apply List.ext_getElem?
  intro i
  by_cases hi : i < l.length
  · have hx : l[i]? = some l[i] := List.getElem?_eq_getElem hi
    have := fN_get l (fun k hk => (h2 k hk).2) i _ hx
    rw [hx]
    simp only [dig, List.getElem?_map, List.getElem?_range hi, Option.map_some, hn]
    congr 1
    apply UInt8.toNat_inj.1
    rw [UInt8.toNat_ofNat', show firstN l / 256 = fN l by unfold firstN; omega, this]
    have := l[i].toNat_lt
    omega
  · rw [List.getElem?_eq_none (by rw [dig_len]; omega), List.getElem?_eq_none (by omega)]
theorem rd_of_write {l : List UInt8} (h : kErr l = 0) : RdOk (w0 l) (w1 l) ∧ rdL (w0 l) (w1 l) = l := by
  obtain ⟨h1, h2⟩ := dig_w0 h
  have hr : RdOk (w0 l) (w1 l) := by
    unfold RdOk
    rw [h1, h2]
    exact ⟨(kErr_ok h).1, h, rfl, rfl⟩
  exact ⟨hr, by rw [rdL, if_pos hr, h1, h2]⟩
theorem w0_inj {l m : List UInt8} (hl : kErr l = 0) (hm : kErr m = 0) (h : w0 l = w0 m) : l = m := by
  obtain ⟨h1, h2⟩ := dig_w0 hl
  obtain ⟨h3, h4⟩ := dig_w0 hm
  rw [← h2, ← h4, ← h1, ← h3, h]
/-- what the reference asks of the first word -/
theorem w0_dig (a : UInt64) (h : nOf a ≤ 8) (hk : kErr (dig a (nOf a)) = 0) : w0 (dig a (nOf a)) = a ↔ a.toNat / 256 / 4 ^ nOf a = 0 := by
  have hn := w0_nat hk
  have e : firstN (dig a (nOf a)) = a.toNat / 256 % 4 ^ nOf a * 256 + nOf a := by rw [firstN, fN_dig, dig_len]
  have ha : a.toNat = a.toNat / 256 * 256 + nOf a := by unfold nOf; omega
  constructor
  · intro h1
    rw [h1, e] at hn
    have h2 : a.toNat / 256 = a.toNat / 256 % 4 ^ nOf a := by omega
    rw [h2]
    exact Nat.div_eq_of_lt (Nat.mod_lt _ (Nat.pow_pos (by omega)))
  · intro h1
    have h2 : a.toNat / 256 < 4 ^ nOf a := by
      rcases Nat.lt_or_ge (a.toNat / 256) (4 ^ nOf a) with h | h
      · exact h
      · have := Nat.div_pos h (Nat.pow_pos (by omega)); omega
    apply UInt64.toNat_inj.1
    rw [hn, e, Nat.mod_eq_of_lt h2]
    exact ha.symm
end Go.Proofs.Ytgjpohhafmkhcaa.L13
