/- Contracts of the reference of parts of words. -/
import Derived.Test.YteiocllnhljpjaaInfo
import Derived.Test.YteiocllnhljpjaaU64
import Derived.Test.YteiocllnhljpjaaL01
set_option linter.unusedVariables false
set_option linter.unusedSimpArgs false
namespace Go.Proofs.Yteiocllnhljpjaa
open Go.RowKit L01

theorem bit_any (x i r : Nat) (hr : r = x / 2 ^ i % 2) (w : World) (hx : x < 18446744073709551616) (hi : i ≤ 64) :
    Calls Try.prog 41 #[.int .u64 (x : Int), .int .i64 (i : Int)] w fun e w' => e = .returned (.int .u64 (r : Int)) ∧ w = w' := by
  have HR := Lib.hid hr; clear hr
  go_enter Try.func41, Try.ntmps41
  go_wp2
  go_loop [0, 5] (fun y k => ∃ j z : Nat, j ≤ i ∧ k = .int .i64 j ∧ y = .int .u64 (z : Int) ∧ z < 18446744073709551616 ∧ Hid (z = x / 2 ^ j)) (fun _ k => i - (intOf k).toNat)
  case atStart => exact ⟨0, x, by omega, rfl, rfl, hx, Lib.hid (by simp)⟩
  case round =>
    obtain ⟨j, z, hj, rfl, rfl, hz, hzz⟩ := hrel
    by_cases hlt : j < i
    · go_wp2
      go_round
      case rel => exact ⟨j + 1, z / 2, by omega, by go_num, by go_num, by omega, Lib.hid (by rw [hzz.out, bit_div])⟩
      case measure => simp [intOf]; omega
    · obtain rfl : j = i := by omega
      go_wp2
      go_ret
      exact ⟨ret_int (by have h1 := hzz.out; have h2 := HR.out; rw [← h1] at h2; omega), rfl⟩

theorem power_any (i r : Nat) (hr : r = 2 ^ i) (w : World) (hi : i < 64) :
    Calls Try.prog 42 #[.int .i64 (i : Int)] w fun e w' => e = .returned (.int .u64 (r : Int)) ∧ w = w' := by
  have HR := Lib.hid hr; clear hr
  go_enter Try.func42, Try.ntmps42
  go_wp2
  go_loop [3, 4] (fun y k => ∃ j z : Nat, j ≤ i ∧ k = .int .i64 j ∧ y = .int .u64 (z : Int) ∧ z < 18446744073709551616 ∧ Hid (z = 2 ^ j)) (fun _ k => i - (intOf k).toNat)
  case atStart => exact ⟨0, 1, by omega, rfl, rfl, by omega, Lib.hid rfl⟩
  case round =>
    obtain ⟨j, z, hj, rfl, rfl, hz, hzz⟩ := hrel
    by_cases hlt : j < i
    · have h2 : 2 * z < 18446744073709551616 := by
        have h3 : 2 ^ (j + 1) ≤ 2 ^ 63 := Nat.pow_le_pow_right (by omega) (by omega)
        rw [hzz.out, Nat.mul_comm, ← Nat.pow_succ]; exact Nat.lt_of_le_of_lt h3 (by decide)
      go_wp2
      go_round
      case rel => exact ⟨j + 1, 2 * z, by omega, by go_num, by go_num, by omega, Lib.hid (by rw [hzz.out, Nat.mul_comm, ← Nat.pow_succ])⟩
      case measure => simp [intOf]; omega
    · obtain rfl : j = i := by omega
      go_wp2
      go_ret
      exact ⟨ret_int (by rw [hzz.out, HR.out]), rfl⟩

set_option maxHeartbeats 1000000 in
theorem Value_any (x f n r : Nat) (hr : r = val x f n) (w : World) (hx : x < 18446744073709551616) (hn : f + n ≤ 64) (h63 : n ≤ 63) :
    Calls Try.prog 33 #[.int .u64 (x : Int), .int .i64 (f : Int), .int .i64 (n : Int)] w fun e w' => e = .returned (.int .u64 (r : Int)) ∧ w = w' := by
  have HR := Lib.hid hr; clear hr
  go_enter Try.func33, Try.ntmps33
  go_wp2
  go_loop [7, 8] (fun y k => ∃ j z : Nat, j ≤ n ∧ k = .int .i64 j ∧ y = .int .u64 (z : Int) ∧ z < 18446744073709551616 ∧ Hid (z = val x f j)) (fun _ k => n - (intOf k).toNat)
  case atStart => exact ⟨0, 0, by omega, rfl, rfl, by omega, Lib.hid (val_zero x f).symm⟩
  case round =>
    obtain ⟨j, z, hj, rfl, rfl, hz, hzz⟩ := hrel
    by_cases hlt : j < n
    · have hp : 2 ^ j ≤ 2 ^ 62 := Nat.pow_le_pow_right (by omega) (by omega)
      obtain ⟨p, hpp⟩ : ∃ p : Nat, p = 2 ^ j := ⟨_, rfl⟩
      obtain ⟨b, hb⟩ : ∃ b : Nat, b = x / 2 ^ (f + j) % 2 := ⟨_, rfl⟩
      have hb2 : b < 2 := by rw [hb]; omega
      have hp2 : p ≤ 4611686018427387904 := by rw [hpp]; exact hp
      have hbp : b * p < 4611686018427387905 := by
        have : b = 0 ∨ b = 1 := by omega
        rcases this with rfl | rfl <;> omega
      have hs : val x f (j + 1) = z + b * p := by rw [val_succ, hzz.out, hb, hpp]
      have hz2 : z + b * p < 9223372036854775808 := by
        rw [← hs]
        have h1 := val_lt x f (j + 1)
        have h2 : 2 ^ (j + 1) ≤ 2 ^ 63 := Nat.pow_le_pow_right (by omega) (by omega)
        exact Nat.lt_of_lt_of_le h1 h2
      have HS := Lib.hid hs; have HP := Lib.hid hpp; have HB := Lib.hid hb; clear hs hpp hb hp
      go_wp2_with fail
      rw [show (f : Int) + (j : Int) = ((f + j : Nat) : Int) by omega]
      refine (bit_any x (f + j) b HB.out _ hx (by omega)).mono ?_
      rintro e w' ⟨rfl, rfl⟩
      go_wp2_with fail
      refine (power_any j p HP.out _ (by omega)).mono ?_
      rintro e w' ⟨rfl, rfl⟩
      have hm : (b : Int) * (p : Int) = ((b * p : Nat) : Int) := by simp
      have h0 : (0 : Int) ≤ (b : Int) * (p : Int) := by rw [hm]; omega
      have h1 : (b : Int) * (p : Int) < 4611686018427387905 := by rw [hm]; omega
      have h2 : (z : Int) + (b : Int) * (p : Int) < 9223372036854775808 := by rw [hm]; omega
      have HM := Lib.hid hm; clear hm
      go_wp2
      go_round
      case rel => exact ⟨j + 1, z + b * p, by omega, by go_num, by have := HM.out; go_num, by omega, Lib.hid HS.out.symm⟩
      case measure => simp [intOf]; omega
    · obtain rfl : j = n := by omega
      go_wp2
      go_ret
      exact ⟨ret_int (by rw [hzz.out, HR.out]), rfl⟩

set_option maxHeartbeats 1000000 in
theorem With_any (x f n v r : Nat) (hr : r = wth x f n v) (w : World) (hx : x < 18446744073709551616) (hv : v < 18446744073709551616) (hn : f + n ≤ 64) (h63 : n ≤ 63) :
    Calls Try.prog 40 #[.int .u64 (x : Int), .int .i64 (f : Int), .int .i64 (n : Int), .int .u64 (v : Int)] w fun e w' => e = .returned (.int .u64 (r : Int)) ∧ w = w' := by
  have HR := Lib.hid hr; clear hr
  go_enter Try.func40, Try.ntmps40
  go_wp2
  go_loop [0, 9] (fun y k => ∃ j z : Nat, j ≤ n ∧ k = .int .i64 j ∧ y = .int .u64 (z : Int) ∧ z < 18446744073709551616 ∧ Hid (z = wth x f j v)) (fun _ k => n - (intOf k).toNat)
  case atStart => exact ⟨0, x, by omega, rfl, rfl, hx, Lib.hid (wth_zero x f v).symm⟩
  case round =>
    obtain ⟨j, z, hj, rfl, rfl, hz, hzz⟩ := hrel
    by_cases hlt : j < n
    · have hp : 2 ^ (f + j) ≤ 2 ^ 63 := Nat.pow_le_pow_right (by omega) (by omega)
      obtain ⟨p, hpp⟩ : ∃ p : Nat, p = 2 ^ (f + j) := ⟨_, rfl⟩
      obtain ⟨b, hb⟩ : ∃ b : Nat, b = z / 2 ^ (f + j) % 2 := ⟨_, rfl⟩
      obtain ⟨c, hc⟩ : ∃ c : Nat, c = v / 2 ^ j % 2 := ⟨_, rfl⟩
      have hb2 : b < 2 := by rw [hb]; omega
      have hc2 : c < 2 := by rw [hc]; omega
      have hp2 : p ≤ 9223372036854775808 := by rw [hpp]; exact hp
      have hbp : b * p ≤ 9223372036854775808 := by
        have : b = 0 ∨ b = 1 := by omega
        rcases this with rfl | rfl <;> omega
      have hcp : c * p ≤ 9223372036854775808 := by
        have : c = 0 ∨ c = 1 := by omega
        rcases this with rfl | rfl <;> omega
      have hbz : b * p ≤ z := by rw [hb, hpp, hzz.out, wth_hi]; exact wth_ge x f j v
      have hs : wth x f (j + 1) v = z - b * p + c * p := by rw [wth_succ, hb, hpp, hc, hzz.out, wth_hi]
      have hz2 : z - b * p + c * p < 18446744073709551616 := by
        rw [← hs]
        exact wth_lt (k := j + 1) hx (by omega)
      have HS := Lib.hid hs; have HP := Lib.hid hpp; have HB := Lib.hid hb; have HC := Lib.hid hc; clear hs hpp hb hp hc
      go_wp2_with fail
      rw [show (f : Int) + (j : Int) = ((f + j : Nat) : Int) by omega]
      refine (bit_any z (f + j) b HB.out _ hz (by omega)).mono ?_
      rintro e w' ⟨rfl, rfl⟩
      go_wp2_with fail
      rw [show (f : Int) + (j : Int) = ((f + j : Nat) : Int) by omega]
      refine (power_any (f + j) p HP.out _ (by omega)).mono ?_
      rintro e w' ⟨rfl, rfl⟩
      have hm : (b : Int) * (p : Int) = ((b * p : Nat) : Int) := by simp
      have hm2 : (c : Int) * (p : Int) = ((c * p : Nat) : Int) := by simp
      have h0 : (0 : Int) ≤ (b : Int) * (p : Int) := by rw [hm]; omega
      have h1 : (b : Int) * (p : Int) ≤ (z : Int) := by rw [hm]; omega
      have h3 : (0 : Int) ≤ (c : Int) * (p : Int) := by rw [hm2]; omega
      have h4 : (c : Int) * (p : Int) ≤ 9223372036854775808 := by rw [hm2]; omega
      have h2 : (z : Int) - (b : Int) * (p : Int) + (c : Int) * (p : Int) < 18446744073709551616 := by rw [hm, hm2]; omega
      have HM := Lib.hid hm; clear hm
      have HM2 := Lib.hid hm2; clear hm2
      go_wp2_with fail
      refine (bit_any v j c HC.out _ hv (by omega)).mono ?_
      rintro e w' ⟨rfl, rfl⟩
      go_wp2_with fail
      rw [show (f : Int) + (j : Int) = ((f + j : Nat) : Int) by omega]
      refine (power_any (f + j) p HP.out _ (by omega)).mono ?_
      rintro e w' ⟨rfl, rfl⟩
      go_wp2
      go_round
      case rel => exact ⟨j + 1, z - b * p + c * p, by omega, by go_num, congrArg _ (by have h5 := HM.out; have h6 := HM2.out; omega), by omega, Lib.hid HS.out.symm⟩
      case measure => simp [intOf]; omega
    · obtain rfl : j = n := by omega
      go_wp2
      go_ret
      exact ⟨ret_int (by rw [hzz.out, HR.out]), rfl⟩
end Go.Proofs.Yteiocllnhljpjaa
