/- Sums of words, as plain functions. Nothing of the program. -/
namespace Go.Proofs.Ytgjpohhafmkhcaa.L05

def byteAt (x : UInt64) (k : Nat) : UInt8 := UInt8.ofNat (x.toNat / 256 ^ k)
theorem byteAt_nat (x : UInt64) (k : Nat) : (byteAt x k).toNat = x.toNat / 256 ^ k % 256 := by
  unfold byteAt; rw [UInt8.toNat_ofNat']
def prime : UInt64 := 1099511628211
def first : UInt64 := 14695981039346656037
def fnv (s : UInt64) (b : UInt8) : UInt64 := (s ^^^ b.toUInt64) * prime
/-- the state behind the first k bytes of a word. -/
def wordTo (s x : UInt64) : Nat → UInt64
  | 0 => s
  | k + 1 => fnv (wordTo s x k) (byteAt x k)
def wordStep (s x : UInt64) : UInt64 := wordTo s x 8
def behind (s : UInt64) (l : List UInt64) : UInt64 := l.foldl wordStep s
def sum (l : List UInt64) : UInt64 := behind first l
theorem behind_snoc (s : UInt64) (l : List UInt64) (x : UInt64) : behind s (l ++ [x]) = wordStep (behind s l) x := by simp [behind]
theorem behind_take {s : UInt64} {l : List UInt64} {k : Nat} {x : UInt64} (h : l[k]? = some x) : behind s (l.take (k + 1)) = wordStep (behind s (l.take k)) x := by
  rw [List.take_add_one, h]; exact behind_snoc _ _ _
theorem fnv_nat (s : UInt64) (b : UInt8) : (fnv s b).toNat = (s.toNat ^^^ b.toNat) * 1099511628211 % 18446744073709551616 := by
  unfold fnv
  rw [UInt64.toNat_mul, UInt64.toNat_xor, UInt8.toNat_toUInt64]
  rfl
theorem first_nat : first.toNat = 14695981039346656037 := by decide
end Go.Proofs.Ytgjpohhafmkhcaa.L05
