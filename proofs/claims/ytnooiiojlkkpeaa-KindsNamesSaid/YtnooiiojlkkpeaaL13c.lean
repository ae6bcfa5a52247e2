/- A table of types filled row by row, as plain functions. Nothing of the program. -/
import Derived.Test.YtnooiiojlkkpeaaL13b
set_option linter.unusedVariables false
set_option linter.unusedSimpArgs false
namespace Go.Proofs.Ytnooiiojlkkpeaa.L13
open L02 L05

def fillT (L : List (List UInt8)) : Nat → List UInt64
  | 0 => List.replicate 256 0
  | k + 1 => ((fillT L k).set (96 + 2 * k) (w0 (L.getD k []))).set (97 + 2 * k) (w1 (L.getD k []))
theorem fillT_len (L : List (List UInt8)) : ∀ k, (fillT L k).length = 256
  | 0 => List.length_replicate
  | k + 1 => by simp [fillT, fillT_len L k]
theorem fillT_ta (L : List (List UInt8)) {i : Nat} (hi : i < 8) : ∀ k, k ≤ 8 → ta (fillT L k) i = if i < k then w0 (L.getD i []) else 0
  | 0, _ => by
    simp only [ta, fillT, List.getD_eq_getElem?_getD, List.getElem?_replicate]
    rw [if_pos (by omega), if_neg (by omega)]; rfl
  | k + 1, hk => by
    have ih := fillT_ta L hi k (by omega)
    have hl := fillT_len L k
    simp only [ta, fillT, List.getD_eq_getElem?_getD, List.getElem?_set] at ih ⊢
    rw [if_neg (by omega)]
    by_cases h : i = k
    · subst h
      rw [if_pos rfl, if_pos (by omega), if_pos (by omega)]; rfl
    · rw [if_neg (by omega), ih]
      by_cases h2 : i < k
      · rw [if_pos h2, if_pos (by omega)]
      · rw [if_neg h2, if_neg (by omega)]
theorem fillT_tb (L : List (List UInt8)) {i : Nat} (hi : i < 8) : ∀ k, k ≤ 8 → tb (fillT L k) i = if i < k then w1 (L.getD i []) else 0
  | 0, _ => by
    simp only [tb, fillT, List.getD_eq_getElem?_getD, List.getElem?_replicate]
    rw [if_pos (by omega), if_neg (by omega)]; rfl
  | k + 1, hk => by
    have ih := fillT_tb L hi k (by omega)
    have hl := fillT_len L k
    simp only [tb, fillT, List.getD_eq_getElem?_getD, List.getElem?_set, List.length_set] at ih ⊢
    by_cases h : i = k
    · subst h
      rw [if_pos rfl, if_pos (by omega), if_pos (by omega)]; rfl
    · rw [if_neg (by omega), if_neg (by omega), ih]
      by_cases h2 : i < k
      · rw [if_pos h2, if_pos (by omega)]
      · rw [if_neg h2, if_neg (by omega)]
theorem rd00 : ¬ RdOk 0 0 := by decide +kernel
theorem w01_ne {l : List UInt8} (h : kErr l = 0) : ¬ (w0 l = 0 ∧ w1 l = 0) := by
  rintro ⟨h1, h2⟩
  rw [w1, if_pos h, h1] at h2
  exact absurd h2 (by decide +kernel)
theorem fill_good {L : List (List UInt8)} (h8 : L.length ≤ 8) (h : ∀ i, i < L.length → kErr (L.getD i []) = 0) : TysOk (fillT L L.length) L.length := by
  intro i hi
  unfold TyOk
  rw [fillT_ta L hi _ h8, fillT_tb L hi _ h8]
  by_cases hlt : i < L.length
  · rw [if_pos hlt, if_pos hlt, if_pos hlt]; exact (rd_of_write (h i hlt)).1
  · rw [if_neg hlt, if_neg hlt, if_neg hlt]; exact ⟨rfl, rfl⟩
theorem fill_bad {L : List (List UInt8)} (h8 : L.length ≤ 8) (h : ∀ i, i < L.length → kErr (L.getD i []) = 0) {n : Nat} (hn : n ≤ 8) (hne : n ≠ L.length) : ¬ TysOk (fillT L L.length) n := by
  intro hall
  by_cases hlt : n < L.length
  · have := hall n (by omega)
    unfold TyOk at this
    rw [if_neg (by omega), fillT_ta L (by omega) _ h8, fillT_tb L (by omega) _ h8, if_pos hlt, if_pos hlt] at this
    exact w01_ne (h n hlt) this
  · have := hall L.length (by omega)
    unfold TyOk at this
    rw [if_pos (by omega), fillT_ta L (by omega) _ h8, fillT_tb L (by omega) _ h8, if_neg (by omega), if_neg (by omega)] at this
    exact rd00 this
theorem fill_tys {L : List (List UInt8)} (h8 : L.length ≤ 8) (h : ∀ i, i < L.length → kErr (L.getD i []) = 0) : tysTo (fillT L L.length) L.length = L := by
  apply List.ext_getElem?
  intro i
  unfold tysTo
  rw [List.getElem?_map]
  by_cases hlt : i < L.length
  · rw [List.getElem?_range hlt]
    simp only [Option.map_some]
    rw [fillT_ta L (by omega) _ h8, fillT_tb L (by omega) _ h8, if_pos hlt, if_pos hlt, (rd_of_write (h i hlt)).2]
    rw [List.getD_eq_getElem?_getD, List.getElem?_eq_getElem hlt]; rfl
  · rw [List.getElem?_eq_none (by simp; omega), List.getElem?_eq_none (by omega)]; rfl
theorem fill_size (L : List (List UInt8)) (k : Nat) : SizeOk (fillT L k).length := by rw [fillT_len]; decide
theorem fill_ok {L : List (List UInt8)} (h8 : L.length ≤ 8) (h : ∀ i, i < L.length → kErr (L.getD i []) = 0) : tabErr (fillT L L.length) L.length = 0 ∧ tabT (fillT L L.length) L.length = L := by
  have e : tabErr (fillT L L.length) L.length = 0 := by
    rw [tabErr, if_pos (fill_size _ _), if_pos ⟨by omega, by omega⟩, if_pos (by simpa using fill_good h8 h)]
  exact ⟨e, by rw [tabT, if_pos e]; simpa using fill_tys h8 h⟩
theorem fill_no {L : List (List UInt8)} (h8 : L.length ≤ 8) (h : ∀ i, i < L.length → kErr (L.getD i []) = 0) {n : Nat} (hn : n ≤ 8) (hne : n ≠ L.length) : tabErr (fillT L L.length) n = 50 := by
  rw [tabErr, if_pos (fill_size _ _), if_pos ⟨by omega, by omega⟩, if_neg (by simpa using fill_bad h8 h hn hne)]

/-- two words set, in either order -/
def two (M : List UInt64) (p q : Nat) (a b : UInt64) (b1 b2 : Bool) : List UInt64 :=
  let M1 := if b1 then M.set p a else M
  if b2 then M1.set q b else M1
theorem two_len (M : List UInt64) (p q : Nat) (a b : UInt64) (b1 b2 : Bool) : (two M p q a b b1 b2).length = M.length := by
  cases b1 <;> cases b2 <;> simp [two]
theorem two_set1 (M : List UInt64) {p q : Nat} (h : p ≠ q) (a b : UInt64) (b2 : Bool) : (two M p q a b false b2).set p a = two M p q a b true b2 := by
  cases b2 <;> simp [two]
  exact List.set_comm _ _ (Ne.symm h)
theorem two_set2 (M : List UInt64) (p q : Nat) (a b : UInt64) (b1 : Bool) : (two M p q a b b1 false).set q b = two M p q a b b1 true := by
  cases b1 <;> simp [two]
end Go.Proofs.Ytnooiiojlkkpeaa.L13
