/- What the functions of images compute, as plain functions on lists. Nothing of the program. -/
namespace Go.Proofs.Ytgjpohhafmkhcaa.L02

def SizeOk (n : Int) : Prop := 256 ≤ n ∧ n ≤ 2048 ∧ n % 8 = 0
instance (n : Int) : Decidable (SizeOk n) := inferInstanceAs (Decidable (256 ≤ n ∧ n ≤ 2048 ∧ n % 8 = 0))
def chk (l : List UInt64) : Int := if SizeOk l.length then 0 else 8
def InR (l : List UInt64) (at_ n : Int) : Prop := 0 ≤ at_ ∧ 0 ≤ n ∧ at_ ≤ l.length ∧ n ≤ l.length - at_
instance (l : List UInt64) (at_ n : Int) : Decidable (InR l at_ n) := inferInstanceAs (Decidable (0 ≤ at_ ∧ 0 ≤ n ∧ at_ ≤ l.length ∧ n ≤ l.length - at_))
def rng (l : List UInt64) (at_ n : Int) : Int := if SizeOk l.length then (if InR l at_ n then 0 else 2) else 8
def get (l : List UInt64) (at_ n : Int) : List UInt64 := if rng l at_ n = 0 then (l.drop at_.toNat).take n.toNat else []
def put (l : List UInt64) (at_ : Int) (m : List UInt64) : List UInt64 := if rng l at_ m.length = 0 then l.take at_.toNat ++ (m ++ l.drop (at_.toNat + m.length)) else []
def lineNo (l : List UInt64) (at_ : Int) : Int := if rng l at_ 1 = 0 then at_ / 8 else 0
def lineAt (l : List UInt64) (at_ : Int) : Int := if rng l at_ 1 = 0 then at_ - at_ % 8 else 0
def diffsTo (a b : List UInt64) (k : Nat) : List Int := ((List.range k).filter fun i => decide (a[i]? ≠ b[i]?)).map Int.ofNat
def diffErr (a b : List UInt64) : Int := if SizeOk a.length ∧ SizeOk b.length then (if a.length = b.length then 0 else 2) else 8
def diffs (a b : List UInt64) : List Int := if diffErr a b = 0 then diffsTo a b a.length else []
def new (n : Int) : List UInt64 := if SizeOk n then List.replicate n.toNat 0 else []
def newErr (n : Int) : Int := if SizeOk n then 0 else 2

theorem chk_ok {l : List UInt64} (h : SizeOk l.length) : chk l = 0 := if_pos h
theorem chk_no {l : List UInt64} (h : ¬ SizeOk l.length) : chk l = 8 := if_neg h
theorem rng_ok {l : List UInt64} {at_ n : Int} (h : SizeOk l.length) (h' : InR l at_ n) : rng l at_ n = 0 := by simp [rng, h, h']
theorem rng_no {l : List UInt64} {at_ n : Int} (h : SizeOk l.length) (h' : ¬ InR l at_ n) : rng l at_ n = 2 := by simp [rng, h, h']
theorem rng_bad {l : List UInt64} {at_ n : Int} (h : ¬ SizeOk l.length) : rng l at_ n = 8 := by simp [rng, h]
theorem diffsTo_succ (a b : List UInt64) (k : Nat) : diffsTo a b (k + 1) = diffsTo a b k ++ (if a[k]? ≠ b[k]? then [(k : Int)] else []) := by
  unfold diffsTo
  rw [List.range_succ, List.filter_append, List.map_append]
  by_cases h : a[k]? = b[k]? <;> simp [h]
theorem length_diffsTo (a b : List UInt64) (k : Nat) : (diffsTo a b k).length ≤ k := by
  unfold diffsTo
  have := List.length_filter_le (fun i => decide (a[i]? ≠ b[i]?)) (List.range k)
  simpa using this
def same (a b : List UInt64) : Bool := decide (a = b)
def sameI (a b : List Int) : Bool := decide (a = b)
end Go.Proofs.Ytgjpohhafmkhcaa.L02
