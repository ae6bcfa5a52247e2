/- Parts of words, as plain functions on numbers. Nothing of the program. -/
set_option linter.unusedVariables false
set_option linter.unusedSimpArgs false
namespace Go.Proofs.Yteiocllnhljpjaa.L01

/-- the bits of w from f on, k of them -/
def val (w f k : Nat) : Nat := w / 2 ^ f % 2 ^ k
/-- w with those bits set to v's -/
def wth (w f k v : Nat) : Nat := w / 2 ^ (f + k) * 2 ^ (f + k) + v % 2 ^ k * 2 ^ f + w % 2 ^ f

theorem bit_div (w k : Nat) : w / 2 ^ k / 2 = w / 2 ^ (k + 1) := by rw [Nat.div_div_eq_div_mul, ← Nat.pow_succ]
theorem val_zero (w f : Nat) : val w f 0 = 0 := by simp [val, Nat.mod_one]
theorem val_succ (w f k : Nat) : val w f (k + 1) = val w f k + w / 2 ^ (f + k) % 2 * 2 ^ k := by
  unfold val
  rw [Nat.mod_pow_succ, Nat.div_div_eq_div_mul, ← Nat.pow_add, Nat.mul_comm (2 ^ k)]
theorem val_lt (w f k : Nat) : val w f k < 2 ^ k := Nat.mod_lt _ (Nat.two_pow_pos k)
theorem wth_zero (w f v : Nat) : wth w f 0 v = w := by
  unfold wth
  have := Nat.div_add_mod w (2 ^ f)
  simp [Nat.mod_one]
  rw [Nat.mul_comm]; exact this
theorem low_lt (w f k v : Nat) : v % 2 ^ k * 2 ^ f + w % 2 ^ f < 2 ^ (f + k) := by
  have h1 := Nat.mod_lt v (Nat.two_pow_pos k)
  have h2 := Nat.mod_lt w (Nat.two_pow_pos f)
  rw [Nat.pow_add]
  have h3 : (v % 2 ^ k + 1) * 2 ^ f ≤ 2 ^ k * 2 ^ f := Nat.mul_le_mul_right _ h1
  rw [Nat.add_mul, Nat.mul_comm (2 ^ k)] at h3
  omega
theorem wth_hi (w f k v : Nat) : wth w f k v / 2 ^ (f + k) = w / 2 ^ (f + k) := by
  have h := low_lt w f k v
  unfold wth
  rw [Nat.add_assoc, Nat.mul_comm, Nat.mul_add_div (Nat.two_pow_pos _), Nat.div_eq_of_lt h, Nat.add_zero]
theorem wth_ge (w f k v : Nat) : w / 2 ^ (f + k) % 2 * 2 ^ (f + k) ≤ wth w f k v := by
  unfold wth
  have h1 : w / 2 ^ (f + k) % 2 * 2 ^ (f + k) ≤ w / 2 ^ (f + k) * 2 ^ (f + k) := Nat.mul_le_mul_right _ (Nat.mod_le _ _)
  omega
theorem wth_succ (w f k v : Nat) : wth w f (k + 1) v = wth w f k v - w / 2 ^ (f + k) % 2 * 2 ^ (f + k) + v / 2 ^ k % 2 * 2 ^ (f + k) := by
  have h1 : w / 2 ^ (f + k) = 2 * (w / 2 ^ (f + (k + 1))) + w / 2 ^ (f + k) % 2 := by
    rw [← Nat.add_assoc, ← bit_div]; omega
  have h2 : v % 2 ^ (k + 1) = v % 2 ^ k + v / 2 ^ k % 2 * 2 ^ k := by rw [Nat.mod_pow_succ, Nat.mul_comm (2 ^ k)]
  unfold wth
  rw [h2]
  generalize hq' : w / 2 ^ (f + (k + 1)) = q' at *
  generalize hq : w / 2 ^ (f + k) = q at *
  generalize hb : q % 2 = b at *
  generalize hc : v / 2 ^ k % 2 = c at *
  generalize hr : v % 2 ^ k = r at *
  generalize hs : w % 2 ^ f = s at *
  subst h1
  have e1 : 2 ^ (f + (k + 1)) = 2 * 2 ^ (f + k) := by rw [← Nat.add_assoc, Nat.pow_succ, Nat.mul_comm]
  have e2 : (r + c * 2 ^ k) * 2 ^ f = r * 2 ^ f + c * 2 ^ (f + k) := by rw [Nat.add_mul, Nat.mul_assoc, Nat.pow_add, Nat.mul_comm (2 ^ k)]
  have e3 : q' * (2 * 2 ^ (f + k)) = 2 * (q' * 2 ^ (f + k)) := by rw [Nat.mul_left_comm]
  have e4 : (2 * q' + b) * 2 ^ (f + k) = 2 * (q' * 2 ^ (f + k)) + b * 2 ^ (f + k) := by rw [Nat.add_mul, Nat.mul_assoc]
  rw [e1, e2, e3, e4]
  omega
theorem wth_lt {w f k v : Nat} (hw : w < 2 ^ 64) (h : f + k ≤ 64) : wth w f k v < 2 ^ 64 := by
  have h1 := low_lt w f k v
  unfold wth
  have h2 : w / 2 ^ (f + k) < 2 ^ (64 - (f + k)) := by
    rw [Nat.div_lt_iff_lt_mul (Nat.two_pow_pos _), ← Nat.pow_add]
    rw [show 64 - (f + k) + (f + k) = 64 by omega]; exact hw
  have h3 : (w / 2 ^ (f + k) + 1) * 2 ^ (f + k) ≤ 2 ^ (64 - (f + k)) * 2 ^ (f + k) := Nat.mul_le_mul_right _ h2
  rw [← Nat.pow_add, show 64 - (f + k) + (f + k) = 64 by omega, Nat.add_mul] at h3
  omega
end Go.Proofs.Yteiocllnhljpjaa.L01
