/- What the functions of slots compute, as plain functions. Nothing of the program. -/
import Derived.Test.YtgjpohhafmkhcaaL02
set_option linter.unusedVariables false
set_option linter.unusedSimpArgs false
namespace Go.Proofs.Ytgjpohhafmkhcaa.L18
open L02

structure Sl where
  gen : Int
  used : Bool
  at_ : Int
deriving DecidableEq

def Sl.none : Sl := ⟨0, false, 0⟩
def Right (s : Sl) : Prop := 0 ≤ s.gen ∧ s.gen ≤ 2147483647 ∧ (s.used = false → s.at_ = 0) ∧ (s.used = true → 0 < s.gen ∧ 128 ≤ s.at_ ∧ s.at_ < 2048)
instance (s : Sl) : Decidable (Right s) := inferInstanceAs (Decidable (0 ≤ s.gen ∧ s.gen ≤ 2147483647 ∧ (s.used = false → s.at_ = 0) ∧ (s.used = true → 0 < s.gen ∧ 128 ≤ s.at_ ∧ s.at_ < 2048)))
def pkN (s : Sl) : Nat := s.at_.toNat + s.gen.toNat * 4294967296 + (if s.used then 9223372036854775808 else 0)
def pk (s : Sl) : UInt64 := UInt64.ofNat (pkN s)
def spl (w : UInt64) : Sl := ⟨(w.toNat / 4294967296 % 2147483648 : Nat), decide (w.toNat / 9223372036854775808 = 1), (w.toNat % 4294967296 : Nat)⟩
def wordErr (s : Sl) : Int := if Right s then 0 else 8
def word (s : Sl) : UInt64 := if Right s then pk s else 0
def splErr (w : UInt64) : Int := if Right (spl w) then 0 else 50
def spl0 (w : UInt64) : Sl := if Right (spl w) then spl w else .none
/-- the words of slots, in an image -/
def ws (l : List UInt64) : List UInt64 := (l.drop 112).take 16
def slots (l : List UInt64) : List Sl := (ws l).map spl
def AllR (l : List UInt64) : Prop := ∀ x ∈ ws l, Right (spl x)
instance (l : List UInt64) : Decidable (AllR l) := inferInstanceAs (Decidable (∀ x ∈ ws l, Right (spl x)))
def openErr (l : List UInt64) : Int := if SizeOk l.length then (if AllR l then 0 else 50) else 8
def all (l : List UInt64) : List Sl := if openErr l = 0 then slots l else []
def rightErr (L : List Sl) (s g : Int) : Int := if 0 ≤ s ∧ s < L.length then (if (L.getD s.toNat .none).used = true ∧ (L.getD s.toNat .none).gen = g then 0 else 28) else 2
def resErr (l : List UInt64) (s g : Int) : Int := if openErr l = 0 then rightErr (slots l) s g else openErr l
def res (l : List UInt64) (s g : Int) : Int := if resErr l s g = 0 then ((slots l).getD s.toNat .none).at_ else 0
/-- the first free slot from k on -/
def nextFrom : List Sl → Nat → Option Nat
  | [], _ => none
  | s :: L, k => if s.used = false ∧ s.gen ≠ 2147483647 then some k else nextFrom L (k + 1)
def next (L : List Sl) : Option Nat := nextFrom L 0
def newErr (l : List UInt64) (a : Int) : Int := if openErr l = 0 then (if 128 ≤ a ∧ a < 2048 then (if next (slots l) = none then 23 else 0) else 2) else openErr l
def newSlot (l : List UInt64) (a : Int) : Int := if newErr l a = 0 then ((next (slots l)).getD 0 : Nat) else 0
def newGen (l : List UInt64) (a : Int) : Int := if newErr l a = 0 then ((slots l).getD ((next (slots l)).getD 0) .none).gen + 1 else 0
def newAt (l : List UInt64) (a : Int) : Int := if newErr l a = 0 then 112 + ((next (slots l)).getD 0 : Nat) else 0
def newVal (l : List UInt64) (a : Int) : UInt64 := if newErr l a = 0 then pk ⟨newGen l a, true, a⟩ else 0
def dropAt (l : List UInt64) (s g : Int) : Int := if resErr l s g = 0 then 112 + s else 0
def dropVal (l : List UInt64) (s g : Int) : UInt64 := if resErr l s g = 0 then pk ⟨g, false, 0⟩ else 0

theorem pkN_t {s : Sl} (hu : s.used = true) : pkN s = s.at_.toNat + s.gen.toNat * 4294967296 + 9223372036854775808 := by rw [pkN, hu]; rfl
theorem pkN_f {s : Sl} (h : Right s) (hu : s.used = false) : pkN s = s.gen.toNat * 4294967296 := by
  have := h.2.2.1 hu
  rw [pkN, hu, this]; simp
theorem pkN_lt {s : Sl} (h : Right s) : pkN s < 18446744073709551616 := by
  have h1 := h.1; have h2 := h.2.1
  cases hu : s.used
  · rw [pkN_f h hu]; omega
  · have h4 := h.2.2.2 hu
    rw [pkN_t hu]; omega
theorem pk_nat {s : Sl} (h : Right s) : (pk s).toNat = pkN s := by
  unfold pk
  rw [UInt64.toNat_ofNat']
  exact Nat.mod_eq_of_lt (pkN_lt h)
theorem spl_pk {s : Sl} (h : Right s) : spl (pk s) = s := by
  have hn := pk_nat h
  obtain ⟨g, u, a⟩ := s
  have h1 : 0 ≤ g := h.1
  have h2 : g ≤ 2147483647 := h.2.1
  unfold spl
  rw [hn]
  cases hu : u
  · have h3 : a = 0 := h.2.2.1 hu
    rw [pkN_f (by rw [← hu]; exact h) rfl]
    subst h3 hu
    have e1 : decide (g.toNat * 4294967296 / 9223372036854775808 = 1) = false := by rw [decide_eq_false_iff_not]; omega
    simp only [e1, Sl.mk.injEq, true_and, and_true]
    exact ⟨by omega, by omega⟩
  · have h4 : 0 < g ∧ 128 ≤ a ∧ a < 2048 := h.2.2.2 hu
    rw [pkN_t rfl]
    subst hu
    have e1 : decide ((a.toNat + g.toNat * 4294967296 + 9223372036854775808) / 9223372036854775808 = 1) = true := by rw [decide_eq_true_iff]; omega
    simp only [e1, Sl.mk.injEq, true_and, and_true]
    exact ⟨by omega, by omega⟩
theorem pk_spl {w : UInt64} (h : Right (spl w)) : pk (spl w) = w := by
  apply UInt64.toNat_inj.1
  rw [pk_nat h]
  have hw := w.toNat_lt
  cases hu : (spl w).used
  · have h3 : ((w.toNat % 4294967296 : Nat) : Int) = 0 := h.2.2.1 hu
    have h5 : ¬ w.toNat / 9223372036854775808 = 1 := of_decide_eq_false hu
    rw [pkN_f h hu]
    show ((w.toNat / 4294967296 % 2147483648 : Nat) : Int).toNat * 4294967296 = w.toNat
    omega
  · have h5 : w.toNat / 9223372036854775808 = 1 := of_decide_eq_true hu
    rw [pkN_t hu]
    show ((w.toNat % 4294967296 : Nat) : Int).toNat + ((w.toNat / 4294967296 % 2147483648 : Nat) : Int).toNat * 4294967296 + 9223372036854775808 = w.toNat
    omega
theorem pk_inj {s t : Sl} (hs : Right s) (ht : Right t) (h : pk s = pk t) : s = t := by rw [← spl_pk hs, h, spl_pk ht]
theorem word_ok {s : Sl} (h : Right s) : word s = pk s := if_pos h
theorem right_none : Right .none := by decide
end Go.Proofs.Ytgjpohhafmkhcaa.L18
