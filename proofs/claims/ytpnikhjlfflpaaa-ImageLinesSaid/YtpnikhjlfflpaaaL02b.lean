/- Plain laws on images: what the laws ask of the functions of L02. Nothing of the program. -/
import Derived.Test.YtpnikhjlfflpaaaL02
set_option linter.unusedVariables false
set_option linter.unusedSimpArgs false
namespace Go.Proofs.Ytpnikhjlfflpaaa.L02

def ex1 : List UInt64 := new 256
def ex2 : List UInt64 := put ex1 9 [5, 6]
theorem ex_new : newErr 256 = 0 := by decide +kernel
theorem ex_no : lineNo ex1 17 = 2 := by decide +kernel
theorem ex_at : lineAt ex1 17 = 16 := by decide +kernel
theorem ex_rng : rng ex1 17 1 = 0 := by decide +kernel
theorem ex_put : rng ex1 9 2 = 0 := by decide +kernel
theorem ex_dif : diffErr ex1 ex2 = 0 := by decide +kernel
theorem ex_difs : diffs ex1 ex2 = [9, 10] := by decide +kernel

def badSizes : List Int := [-8, 0, 8, 248, 255, 257, 260, 2047, 2049, 2056]
theorem bad_all : ∀ x ∈ badSizes, ¬ SizeOk x ∧ ¬ SizeOk (max 0 x) ∧ max 0 x ≤ 2056 := by decide
def zeros (n : Nat) : List UInt64 := List.replicate n 0
def m2 : List UInt64 := new 2048
def last : List UInt64 := put m2 2047 [7]
theorem nm1 : newErr 2048 = 0 := by decide +kernel
theorem nm2 : rng m2 2048 1 = 2 := by decide +kernel
theorem nm3 : rng m2 2048 0 = 0 := by decide +kernel
theorem nm3' : get m2 2048 0 = [] := by decide +kernel
theorem nm4 : rng m2 2049 0 = 2 := by decide +kernel
theorem nm5 : rng m2 1 9223372036854775807 = 2 := by decide +kernel
theorem nm6 : rng m2 0 (-1) = 2 := by decide +kernel
theorem nm7 : rng m2 2047 2 = 2 := by decide +kernel
theorem nm8 : rng m2 (-1) 0 = 2 := by decide +kernel
theorem nm9 : rng m2 2047 1 = 0 := by decide +kernel
theorem nm10 : rng last 2047 1 = 0 := by decide +kernel
theorem nm10' : get last 2047 1 = [7] := by decide +kernel
theorem nm11 : lineNo m2 2047 = 255 := by decide +kernel
theorem nm12 : lineAt m2 2047 = 2040 := by decide +kernel
theorem nm13 : diffErr m2 (zeros 2040) = 2 := by decide +kernel
theorem zeros_len (n : Nat) : (zeros n).length = n := List.length_replicate
theorem z264 : SizeOk (zeros 264).length := by rw [zeros_len]; decide
theorem diffErr_l {a b : List UInt64} (h : ¬ SizeOk a.length) : diffErr a b = 8 := by simp [diffErr, h]
theorem diffErr_r {a b : List UInt64} (h : ¬ SizeOk b.length) : diffErr a b = 8 := by simp [diffErr, h]
end Go.Proofs.Ytpnikhjlfflpaaa.L02
