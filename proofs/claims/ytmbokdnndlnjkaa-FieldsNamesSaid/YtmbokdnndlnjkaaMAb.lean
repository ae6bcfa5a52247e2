/- Contracts of the functions that the laws 'A' reach, part 2. No condition. -/
import Derived.Test.YtmbokdnndlnjkaaMAa
set_option linter.unusedVariables false
set_option linter.unusedSimpArgs false
namespace Go.Proofs.Ytmbokdnndlnjkaa
open Go.RowKit L05
/-- The eight bytes of a word, as an array. -/
def bytesV (x : UInt64) : Array Value := #[.int .u8 (x.toNat % 256), .int .u8 (x.toNat / 256 % 256), .int .u8 (x.toNat / 65536 % 256), .int .u8 (x.toNat / 16777216 % 256), .int .u8 (x.toNat / 4294967296 % 256),
  .int .u8 (x.toNat / 1099511627776 % 256), .int .u8 (x.toNat / 281474976710656 % 256), .int .u8 (x.toNat / 72057594037927936)]
set_option maxHeartbeats 1000000 in
theorem Bytes_any (x : UInt64) (w : World) : Calls Try.prog 128 #[.int .u64 x.toNat] w fun e w' => e = .returned (.agg (bytesV x)) ∧ Below w.heap.size w w' := by
  have hx := toNat_lt x
  go_enter Try.func128, Try.ntmps128
  go_wp2
  refine wp_loop_rounds 9 ?_
  iterate 9 (rw [rounds_succ]; go_wp2)
  refine bodyPost_ret (v := .agg (bytesV x)) ?_ rfl ⟨rfl, ?_⟩
  · simp [results, Try.results128, go_sem, bytesV]
  · exact (((Below.refl _ _).alloc (Nat.le_refl _) _).alloc (by simp) _)
set_option maxHeartbeats 1000000 in
theorem BytesR_any (x : UInt64) (w : World) : Calls Try.prog 113 #[.int .u64 x.toNat] w fun e w' => e = .returned (.agg (bytesV x)) ∧ Below w.heap.size w w' := by
  have hx := toNat_lt x
  go_enter Try.func113, Try.ntmps113
  go_wp2
  refine wp_loop_rounds 9 ?_
  iterate 9 (rw [rounds_succ]; go_wp2)
  refine bodyPost_ret (v := .agg (bytesV x)) ?_ rfl ⟨rfl, ?_⟩
  · simp [results, Try.results113, go_sem, bytesV]
    try omega
  · exact (((Below.refl _ _).alloc (Nat.le_refl _) _).alloc (by simp) _)
theorem bytesV_ix0 (x : UInt64) (W : World) : (Instr.index 175 (.agg (bytesV x)) (.int .i64 ((0 : Nat) : Int))).run Try.prog W = .ok (.int .u8 ((x.toNat : Int) % 256)) W := by kernel_rfl
theorem bytesV_ix1 (x : UInt64) (W : World) : (Instr.index 175 (.agg (bytesV x)) (.int .i64 ((1 : Nat) : Int))).run Try.prog W = .ok (.int .u8 ((x.toNat : Int) / 256 % 256)) W := by kernel_rfl
theorem bytesV_ix2 (x : UInt64) (W : World) : (Instr.index 175 (.agg (bytesV x)) (.int .i64 ((2 : Nat) : Int))).run Try.prog W = .ok (.int .u8 ((x.toNat : Int) / 65536 % 256)) W := by kernel_rfl
theorem bytesV_ix3 (x : UInt64) (W : World) : (Instr.index 175 (.agg (bytesV x)) (.int .i64 ((3 : Nat) : Int))).run Try.prog W = .ok (.int .u8 ((x.toNat : Int) / 16777216 % 256)) W := by kernel_rfl
theorem bytesV_ix4 (x : UInt64) (W : World) : (Instr.index 175 (.agg (bytesV x)) (.int .i64 ((4 : Nat) : Int))).run Try.prog W = .ok (.int .u8 ((x.toNat : Int) / 4294967296 % 256)) W := by kernel_rfl
theorem bytesV_ix5 (x : UInt64) (W : World) : (Instr.index 175 (.agg (bytesV x)) (.int .i64 ((5 : Nat) : Int))).run Try.prog W = .ok (.int .u8 ((x.toNat : Int) / 1099511627776 % 256)) W := by kernel_rfl
theorem bytesV_ix6 (x : UInt64) (W : World) : (Instr.index 175 (.agg (bytesV x)) (.int .i64 ((6 : Nat) : Int))).run Try.prog W = .ok (.int .u8 ((x.toNat : Int) / 281474976710656 % 256)) W := by kernel_rfl
theorem bytesV_ix7 (x : UInt64) (W : World) : (Instr.index 175 (.agg (bytesV x)) (.int .i64 ((7 : Nat) : Int))).run Try.prog W = .ok (.int .u8 ((x.toNat : Int) / 72057594037927936)) W := by kernel_rfl
theorem bytesV_ix (x : UInt64) {k : Nat} (hk : k < 8) (W : World) : (Instr.index 175 (.agg (bytesV x)) (.int .i64 (k : Int))).run Try.prog W = .ok (.int .u8 ((byteAt x k).toNat : Int)) W := by
  rw [byteAt_nat]
  have hx := toNat_lt x
  match k, hk with
  | 0, _ => rw [bytesV_ix0]; exact congrArg (fun n => Result.ok (Value.int .u8 n) W) (by simp only [show (256 : Nat) ^ 0 = 1 from rfl]; omega)
  | 1, _ => rw [bytesV_ix1]; exact congrArg (fun n => Result.ok (Value.int .u8 n) W) (by simp only [show (256 : Nat) ^ 1 = 256 from rfl]; omega)
  | 2, _ => rw [bytesV_ix2]; exact congrArg (fun n => Result.ok (Value.int .u8 n) W) (by simp only [show (256 : Nat) ^ 2 = 65536 from rfl]; omega)
  | 3, _ => rw [bytesV_ix3]; exact congrArg (fun n => Result.ok (Value.int .u8 n) W) (by simp only [show (256 : Nat) ^ 3 = 16777216 from rfl]; omega)
  | 4, _ => rw [bytesV_ix4]; exact congrArg (fun n => Result.ok (Value.int .u8 n) W) (by simp only [show (256 : Nat) ^ 4 = 4294967296 from rfl]; omega)
  | 5, _ => rw [bytesV_ix5]; exact congrArg (fun n => Result.ok (Value.int .u8 n) W) (by simp only [show (256 : Nat) ^ 5 = 1099511627776 from rfl]; omega)
  | 6, _ => rw [bytesV_ix6]; exact congrArg (fun n => Result.ok (Value.int .u8 n) W) (by simp only [show (256 : Nat) ^ 6 = 281474976710656 from rfl]; omega)
  | 7, _ => rw [bytesV_ix7]; exact congrArg (fun n => Result.ok (Value.int .u8 n) W) (by simp only [show (256 : Nat) ^ 7 = 72057594037927936 from rfl]; omega)
theorem bytesV_eq (x : UInt64) : bytesV x = #[.int .u8 (byteAt x 0).toNat, .int .u8 (byteAt x 1).toNat, .int .u8 (byteAt x 2).toNat, .int .u8 (byteAt x 3).toNat, .int .u8 (byteAt x 4).toNat, .int .u8 (byteAt x 5).toNat, .int .u8 (byteAt x 6).toNat, .int .u8 (byteAt x 7).toNat] := by
  have hx := toNat_lt x
  simp [byteAt_nat, bytesV]
  omega
theorem fnv_walk (s : UInt64) (q : UInt8) : IntKind.u64.wrap (bits .xor .u64 (s.toNat : Int) (IntKind.u64.wrap (q.toNat : Int)) * 1099511628211) = ((fnv s q).toNat : Int) := by
  have hq := q.toNat_lt
  rw [wrap_u64 (q.toNat : Int), show (q.toNat : Int) % 18446744073709551616 = (q.toNat : Int) by omega, bits_xor_u64n (toNat_lt s) (by omega), wrap_u64, fnv_nat]
  omega
set_option maxHeartbeats 1000000 in
theorem Next_any (s : UInt64) (v : Value) (l : List UInt64) (w : World) (h : Words w v l) (hl : l.length ≤ 2048) :
    Calls Try.prog 126 #[.int .u64 s.toNat, v] w fun e w' => e = .returned (.tuple #[.int .u64 (behind s l).toNat, .int .i64 0]) ∧ Below w.heap.size w w' := by
  have l1 := Rd.len h Try.underlying22
  obtain ⟨N, hN⟩ : ∃ N, N = l.length := ⟨_, rfl⟩
  rw [← hN] at l1 hl
  have HN := Lib.hid hN; have H := Lib.hid h; have B : Below w.heap.size w w := Below.refl _ _
  clear hN h
  go_enter Try.func126, Try.ntmps126
  go_wp2
  go_loopw [0, 15] (fun st i wr => ∃ k : Nat, k ≤ N ∧ i = .int .i64 k ∧ st = .int .u64 (behind s (l.take k)).toNat ∧ Below w.heap.size w wr) (fun _ i _ => N - (intOf i).toNat)
  case atStart => exact ⟨0, Nat.zero_le _, rfl, rfl, B⟩
  case round =>
    obtain ⟨k, hk, rfl, rfl, hbel⟩ := hrel
    by_cases hlt : k < N
    · obtain ⟨ad, x, ia, ca, hx⟩ := (H.out.below hbel).at_ Try.underlying22 one_u64 (k := k) (by have := HN.out; omega)
      have HB := Lib.hid hbel; clear hbel
      go_wp2_with fail
      refine (Bytes_any _ _).mono ?_
      rintro e w2 ⟨rfl, b⟩
      have B2 := HB.out.trans (b.mono HB.out.size)
      have HB2 := Lib.hid B2; clear b B2
      obtain ⟨s0, hs0⟩ : ∃ s0, s0 = behind s (l.take k) := ⟨_, rfl⟩
      rw [← hs0]
      have HS := Lib.hid hs0; clear hs0
      obtain ⟨V, hV⟩ : ∃ V, V = bytesV x := ⟨_, rfl⟩
      rw [← hV]
      have HV := Lib.hid hV; clear hV
      go_wp2
      go_loop [0, 21] (fun st j => ∃ m : Nat, m ≤ 8 ∧ j = .int .i64 m ∧ st = .int .u64 (wordTo s0 x m).toNat) (fun _ j => 8 - (intOf j).toNat)
      case atStart => exact ⟨0, by omega, rfl, rfl⟩
      case round =>
        obtain ⟨m, hm, rfl, rfl⟩ := hrel
        by_cases hm8 : m < 8
        · have hix := bytesV_ix x hm8
          rw [← HV.out] at hix
          obtain ⟨q, hq⟩ : ∃ q, q = byteAt x m := ⟨_, rfl⟩
          rw [← hq] at hix
          obtain ⟨s1, hs1⟩ : ∃ s1, s1 = wordTo s0 x m := ⟨_, rfl⟩
          rw [← hs1]
          have hstep : wordTo s0 x (m + 1) = fnv s1 q := by rw [wordTo, hs1, hq]
          have HST := Lib.hid hstep; clear hstep hs1 hq
          go_wp2
          go_roundw
          case rel => exact ⟨m + 1, by omega, by go_num, by rw [HST.out, fnv_walk]⟩
          case measure => simp [intOf]; omega
        · obtain rfl : m = 8 := by omega
          go_wp2
          go_roundw
          case rel => exact ⟨k + 1, by omega, by go_num, by rw [behind_take hx.out, ← HS.out]; rfl, HB2.out⟩
          case measure => simp [intOf]; omega
    · obtain rfl : k = N := by omega
      have HB := Lib.hid hbel; clear hbel
      go_wp2
      go_ret2
      refine ⟨by rw [HN.out, List.take_length]; rfl, HB.out⟩
theorem Of_any (v : Value) (l : List UInt64) (w : World) (h : Words w v l) (hl : l.length ≤ 2048) :
    Calls Try.prog 119 #[v] w fun e w' => e = .returned (.tuple #[.int .u64 (sum l).toNat, .int .i64 0]) ∧ Below w.heap.size w w' := by
  have hN := Next_any first v l w h hl
  rw [first_nat] at hN
  have HN := Lib.hid hN; clear hN
  obtain ⟨S, hS⟩ : ∃ S, S = sum l := ⟨_, rfl⟩
  rw [← hS]
  have HS := Lib.hid hS; clear hS
  go_enter Try.func119, Try.ntmps119
  go_wp2_with fail
  refine (HN.out).mono ?_
  rw [show behind first l = S from HS.out.symm]
  rintro e w' ⟨rfl, b⟩
  go_wp2
  go_ret2
  exact ⟨rfl, b⟩
theorem Step_any (s : UInt64) (b : UInt8) (w : World) : Calls Try.prog 114 #[.int .u64 s.toNat, .int .u8 b.toNat] w fun e w' => e = .returned (.int .u64 (fnv s b).toNat) ∧ w = w' := by
  have hs := toNat_lt s
  have hb := b.toNat_lt
  obtain ⟨z, hz⟩ : ∃ z : Nat, z = (s.toNat % 256) ^^^ b.toNat := ⟨_, rfl⟩
  have hz1 : bits .xor .u8 ((s.toNat : Int) % 256) (b.toNat : Int) = (z : Int) := by
    rw [hz]; exact bits_xor_u8 (a := s.toNat % 256) (by omega) (by omega)
  have hz2 : z < 256 := by rw [hz]; exact Nat.xor_lt_two_pow (n := 8) (by omega) (by omega)
  have hf : (fnv s b).toNat = (s.toNat - s.toNat % 256 + z) * 1099511628211 % 18446744073709551616 := by rw [fnv_nat, xor_low _ _ (by omega), hz]
  have HF := Lib.hid hf; clear hf hz
  go_enter Try.func114, Try.ntmps114
  go_wp2
  go_ret
  refine ⟨ret_int ?_, rfl⟩
  rw [HF.out]
  first | omega | (rw [wrap_u64]; omega)
set_option maxHeartbeats 1000000 in
theorem Behind_any (s : UInt64) (v : Value) (l : List UInt64) (w : World) (h : Words w v l) (hl : l.length ≤ 2100) :
    Calls Try.prog 87 #[.int .u64 s.toNat, v] w fun e w' => e = .returned (.int .u64 (behind s l).toNat) ∧ Below w.heap.size w w' := by
  have l1 := Rd.len h Try.underlying22
  obtain ⟨N, hN⟩ : ∃ N, N = l.length := ⟨_, rfl⟩
  rw [← hN] at l1 hl
  have HN := Lib.hid hN; have H := Lib.hid h; have B : Below w.heap.size w w := Below.refl _ _
  clear hN h
  go_enter Try.func87, Try.ntmps87
  go_wp2
  go_loopw [0, 5] (fun st i wr => ∃ k : Nat, k ≤ N ∧ i = .int .i64 k ∧ st = .int .u64 (behind s (l.take k)).toNat ∧ Below w.heap.size w wr) (fun _ i _ => N - (intOf i).toNat)
  case atStart => exact ⟨0, Nat.zero_le _, rfl, rfl, B⟩
  case round =>
    obtain ⟨k, hk, rfl, rfl, hbel⟩ := hrel
    by_cases hlt : k < N
    · obtain ⟨ad, x, ia, ca, hx⟩ := (H.out.below hbel).at_ Try.underlying22 one_u64 (k := k) (by have := HN.out; omega)
      have HB := Lib.hid hbel; clear hbel
      go_wp2_with fail
      refine (BytesR_any _ _).mono ?_
      rw [bytesV_eq]
      rintro e w2 ⟨rfl, b⟩
      have B2 := HB.out.trans (b.mono HB.out.size)
      have HB2 := Lib.hid B2; clear b B2
      obtain ⟨s0, hs0⟩ : ∃ s0, s0 = behind s (l.take k) := ⟨_, rfl⟩
      rw [← hs0]
      have HS := Lib.hid hs0; clear hs0
      go_wp2
      refine wp_loop_rounds 9 ?_
      iterate 8 (rw [rounds_succ]; go_wp2_with fail; refine (Step_any _ _ _).mono ?_; rintro e w' ⟨rfl, rfl⟩; go_wp2)
      rw [rounds_succ]
      go_wp2
      go_roundw
      case rel => exact ⟨k + 1, by omega, by go_num, by rw [behind_take hx.out, ← HS.out]; rfl, HB2.out.alloc HB2.out.size _⟩
      case measure => simp [intOf]; omega
    · obtain rfl : k = N := by omega
      have HB := Lib.hid hbel; clear hbel
      go_wp2
      go_ret
      refine ⟨by rw [HN.out, List.take_length]; rfl, HB.out⟩
theorem SumR_any (v : Value) (l : List UInt64) (w : World) (h : Words w v l) (hl : l.length ≤ 2100) :
    Calls Try.prog 50 #[v] w fun e w' => e = .returned (.int .u64 (sum l).toNat) ∧ Below w.heap.size w w' := by
  have hN := Behind_any first v l w h hl
  rw [first_nat] at hN
  have HN := Lib.hid hN; clear hN
  obtain ⟨S, hS⟩ : ∃ S, S = sum l := ⟨_, rfl⟩
  rw [← hS]
  have HS := Lib.hid hS; clear hS
  go_enter Try.func50, Try.ntmps50
  go_wp2_with fail
  refine (HN.out).mono ?_
  rw [show behind first l = S from HS.out.symm]
  rintro e w' ⟨rfl, b⟩
  go_wp2
  go_ret
  exact ⟨rfl, b⟩
end Go.Proofs.Ytmbokdnndlnjkaa
namespace Go.Proofs.Ytmbokdnndlnjkaa.L01
/-- the bits of w from f on, k of them -/
def val (w f k : Nat) : Nat := w / 2 ^ f % 2 ^ k
/-- w with those bits set to v's -/
def wth (w f k v : Nat) : Nat := w / 2 ^ (f + k) * 2 ^ (f + k) + v % 2 ^ k * 2 ^ f + w % 2 ^ f
theorem bit_div (w k : Nat) : w / 2 ^ k / 2 = w / 2 ^ (k + 1) := by rw [Nat.div_div_eq_div_mul, ← Nat.pow_succ]
theorem val_zero (w f : Nat) : val w f 0 = 0 := by simp [val, Nat.mod_one]
theorem val_succ (w f k : Nat) : val w f (k + 1) = val w f k + w / 2 ^ (f + k) % 2 * 2 ^ k := by
  unfold val
  rw [Nat.mod_pow_succ, Nat.div_div_eq_div_mul, ← Nat.pow_add, Nat.mul_comm (2 ^ k)]
theorem val_lt (w f k : Nat) : val w f k < 2 ^ k := Nat.mod_lt _ (Nat.two_pow_pos k)
theorem wth_zero (w f v : Nat) : wth w f 0 v = w := by
  unfold wth
  have := Nat.div_add_mod w (2 ^ f)
  simp [Nat.mod_one]
  rw [Nat.mul_comm]; exact this
theorem low_lt (w f k v : Nat) : v % 2 ^ k * 2 ^ f + w % 2 ^ f < 2 ^ (f + k) := by
  have h1 := Nat.mod_lt v (Nat.two_pow_pos k)
  have h2 := Nat.mod_lt w (Nat.two_pow_pos f)
  rw [Nat.pow_add]
  have h3 : (v % 2 ^ k + 1) * 2 ^ f ≤ 2 ^ k * 2 ^ f := Nat.mul_le_mul_right _ h1
  rw [Nat.add_mul, Nat.mul_comm (2 ^ k)] at h3
  omega
theorem wth_hi (w f k v : Nat) : wth w f k v / 2 ^ (f + k) = w / 2 ^ (f + k) := by
  have h := low_lt w f k v
  unfold wth
  rw [Nat.add_assoc, Nat.mul_comm, Nat.mul_add_div (Nat.two_pow_pos _), Nat.div_eq_of_lt h, Nat.add_zero]
theorem wth_ge (w f k v : Nat) : w / 2 ^ (f + k) % 2 * 2 ^ (f + k) ≤ wth w f k v := by
  unfold wth
  have h1 : w / 2 ^ (f + k) % 2 * 2 ^ (f + k) ≤ w / 2 ^ (f + k) * 2 ^ (f + k) := Nat.mul_le_mul_right _ (Nat.mod_le _ _)
  omega
theorem wth_succ (w f k v : Nat) : wth w f (k + 1) v = wth w f k v - w / 2 ^ (f + k) % 2 * 2 ^ (f + k) + v / 2 ^ k % 2 * 2 ^ (f + k) := by
  have h1 : w / 2 ^ (f + k) = 2 * (w / 2 ^ (f + (k + 1))) + w / 2 ^ (f + k) % 2 := by
    rw [← Nat.add_assoc, ← bit_div]; omega
  have h2 : v % 2 ^ (k + 1) = v % 2 ^ k + v / 2 ^ k % 2 * 2 ^ k := by rw [Nat.mod_pow_succ, Nat.mul_comm (2 ^ k)]
  unfold wth
  rw [h2]
  generalize hq' : w / 2 ^ (f + (k + 1)) = q' at *
  generalize hq : w / 2 ^ (f + k) = q at *
  generalize hb : q % 2 = b at *
  generalize hc : v / 2 ^ k % 2 = c at *
  generalize hr : v % 2 ^ k = r at *
  generalize hs : w % 2 ^ f = s at *
  subst h1
  have e1 : 2 ^ (f + (k + 1)) = 2 * 2 ^ (f + k) := by rw [← Nat.add_assoc, Nat.pow_succ, Nat.mul_comm]
  have e2 : (r + c * 2 ^ k) * 2 ^ f = r * 2 ^ f + c * 2 ^ (f + k) := by rw [Nat.add_mul, Nat.mul_assoc, Nat.pow_add, Nat.mul_comm (2 ^ k)]
  have e3 : q' * (2 * 2 ^ (f + k)) = 2 * (q' * 2 ^ (f + k)) := by rw [Nat.mul_left_comm]
  have e4 : (2 * q' + b) * 2 ^ (f + k) = 2 * (q' * 2 ^ (f + k)) + b * 2 ^ (f + k) := by rw [Nat.add_mul, Nat.mul_assoc]
  rw [e1, e2, e3, e4]
  omega
theorem wth_lt {w f k v : Nat} (hw : w < 2 ^ 64) (h : f + k ≤ 64) : wth w f k v < 2 ^ 64 := by
  have h1 := low_lt w f k v
  unfold wth
  have h2 : w / 2 ^ (f + k) < 2 ^ (64 - (f + k)) := by
    rw [Nat.div_lt_iff_lt_mul (Nat.two_pow_pos _), ← Nat.pow_add]
    rw [show 64 - (f + k) + (f + k) = 64 by omega]; exact hw
  have h3 : (w / 2 ^ (f + k) + 1) * 2 ^ (f + k) ≤ 2 ^ (64 - (f + k)) * 2 ^ (f + k) := Nat.mul_le_mul_right _ h2
  rw [← Nat.pow_add, show 64 - (f + k) + (f + k) = 64 by omega, Nat.add_mul] at h3
  omega
end Go.Proofs.Ytmbokdnndlnjkaa.L01
namespace Go.Proofs.Ytmbokdnndlnjkaa
open Go.RowKit L01
theorem bit_any (x i r : Nat) (hr : r = x / 2 ^ i % 2) (w : World) (hx : x < 18446744073709551616) (hi : i ≤ 64) :
    Calls Try.prog 88 #[.int .u64 (x : Int), .int .i64 (i : Int)] w fun e w' => e = .returned (.int .u64 (r : Int)) ∧ w = w' := by
  have HR := Lib.hid hr; clear hr
  go_enter Try.func88, Try.ntmps88
  go_wp2
  go_loop [0, 5] (fun y k => ∃ j z : Nat, j ≤ i ∧ k = .int .i64 j ∧ y = .int .u64 (z : Int) ∧ z < 18446744073709551616 ∧ Hid (z = x / 2 ^ j)) (fun _ k => i - (intOf k).toNat)
  case atStart => exact ⟨0, x, by omega, rfl, rfl, hx, Lib.hid (by simp)⟩
  case round =>
    obtain ⟨j, z, hj, rfl, rfl, hz, hzz⟩ := hrel
    by_cases hlt : j < i
    · go_wp2
      go_round
      case rel => exact ⟨j + 1, z / 2, by omega, by go_num, by go_num, by omega, Lib.hid (by rw [hzz.out, bit_div])⟩
      case measure => simp [intOf]; omega
    · obtain rfl : j = i := by omega
      go_wp2
      go_ret
      exact ⟨ret_int (by have h1 := hzz.out; have h2 := HR.out; rw [← h1] at h2; omega), rfl⟩
theorem power_any (i r : Nat) (hr : r = 2 ^ i) (w : World) (hi : i < 64) :
    Calls Try.prog 89 #[.int .i64 (i : Int)] w fun e w' => e = .returned (.int .u64 (r : Int)) ∧ w = w' := by
  have HR := Lib.hid hr; clear hr
  go_enter Try.func89, Try.ntmps89
  go_wp2
  go_loop [3, 4] (fun y k => ∃ j z : Nat, j ≤ i ∧ k = .int .i64 j ∧ y = .int .u64 (z : Int) ∧ z < 18446744073709551616 ∧ Hid (z = 2 ^ j)) (fun _ k => i - (intOf k).toNat)
  case atStart => exact ⟨0, 1, by omega, rfl, rfl, by omega, Lib.hid rfl⟩
  case round =>
    obtain ⟨j, z, hj, rfl, rfl, hz, hzz⟩ := hrel
    by_cases hlt : j < i
    · have h2 : 2 * z < 18446744073709551616 := by
        have h3 : 2 ^ (j + 1) ≤ 2 ^ 63 := Nat.pow_le_pow_right (by omega) (by omega)
        rw [hzz.out, Nat.mul_comm, ← Nat.pow_succ]; exact Nat.lt_of_le_of_lt h3 (by decide)
      go_wp2
      go_round
      case rel => exact ⟨j + 1, 2 * z, by omega, by go_num, by go_num, by omega, Lib.hid (by rw [hzz.out, Nat.mul_comm, ← Nat.pow_succ])⟩
      case measure => simp [intOf]; omega
    · obtain rfl : j = i := by omega
      go_wp2
      go_ret
      exact ⟨ret_int (by rw [hzz.out, HR.out]), rfl⟩
set_option maxHeartbeats 1000000 in
theorem Value_any (x f n r : Nat) (hr : r = val x f n) (w : World) (hx : x < 18446744073709551616) (hn : f + n ≤ 64) (h63 : n ≤ 63) :
    Calls Try.prog 125 #[.int .u64 (x : Int), .int .i64 (f : Int), .int .i64 (n : Int)] w fun e w' => e = .returned (.int .u64 (r : Int)) ∧ w = w' := by
  have HR := Lib.hid hr; clear hr
  go_enter Try.func125, Try.ntmps125
  go_wp2
  go_loop [7, 8] (fun y k => ∃ j z : Nat, j ≤ n ∧ k = .int .i64 j ∧ y = .int .u64 (z : Int) ∧ z < 18446744073709551616 ∧ Hid (z = val x f j)) (fun _ k => n - (intOf k).toNat)
  case atStart => exact ⟨0, 0, by omega, rfl, rfl, by omega, Lib.hid (val_zero x f).symm⟩
  case round =>
    obtain ⟨j, z, hj, rfl, rfl, hz, hzz⟩ := hrel
    by_cases hlt : j < n
    · have hp : 2 ^ j ≤ 2 ^ 62 := Nat.pow_le_pow_right (by omega) (by omega)
      obtain ⟨p, hpp⟩ : ∃ p : Nat, p = 2 ^ j := ⟨_, rfl⟩
      obtain ⟨b, hb⟩ : ∃ b : Nat, b = x / 2 ^ (f + j) % 2 := ⟨_, rfl⟩
      have hb2 : b < 2 := by rw [hb]; omega
      have hp2 : p ≤ 4611686018427387904 := by rw [hpp]; exact hp
      have hbp : b * p < 4611686018427387905 := by
        have : b = 0 ∨ b = 1 := by omega
        rcases this with rfl | rfl <;> omega
      have hs : val x f (j + 1) = z + b * p := by rw [val_succ, hzz.out, hb, hpp]
      have hz2 : z + b * p < 9223372036854775808 := by
        rw [← hs]
        have h1 := val_lt x f (j + 1)
        have h2 : 2 ^ (j + 1) ≤ 2 ^ 63 := Nat.pow_le_pow_right (by omega) (by omega)
        exact Nat.lt_of_lt_of_le h1 h2
      have HS := Lib.hid hs; have HP := Lib.hid hpp; have HB := Lib.hid hb; clear hs hpp hb hp
      go_wp2_with fail
      rw [show (f : Int) + (j : Int) = ((f + j : Nat) : Int) by omega]
      refine (bit_any x (f + j) b HB.out _ hx (by omega)).mono ?_
      rintro e w' ⟨rfl, rfl⟩
      go_wp2_with fail
      refine (power_any j p HP.out _ (by omega)).mono ?_
      rintro e w' ⟨rfl, rfl⟩
      have hm : (b : Int) * (p : Int) = ((b * p : Nat) : Int) := by simp
      have h0 : (0 : Int) ≤ (b : Int) * (p : Int) := by rw [hm]; omega
      have h1 : (b : Int) * (p : Int) < 4611686018427387905 := by rw [hm]; omega
      have h2 : (z : Int) + (b : Int) * (p : Int) < 9223372036854775808 := by rw [hm]; omega
      have HM := Lib.hid hm; clear hm
      go_wp2
      go_round
      case rel => exact ⟨j + 1, z + b * p, by omega, by go_num, by have := HM.out; go_num, by omega, Lib.hid HS.out.symm⟩
      case measure => simp [intOf]; omega
    · obtain rfl : j = n := by omega
      go_wp2
      go_ret
      exact ⟨ret_int (by rw [hzz.out, HR.out]), rfl⟩
set_option maxHeartbeats 1000000 in
theorem With_any (x f n v r : Nat) (hr : r = wth x f n v) (w : World) (hx : x < 18446744073709551616) (hv : v < 18446744073709551616) (hn : f + n ≤ 64) (h63 : n ≤ 63) :
    Calls Try.prog 53 #[.int .u64 (x : Int), .int .i64 (f : Int), .int .i64 (n : Int), .int .u64 (v : Int)] w fun e w' => e = .returned (.int .u64 (r : Int)) ∧ w = w' := by
  have HR := Lib.hid hr; clear hr
  go_enter Try.func53, Try.ntmps53
  go_wp2
  go_loop [0, 9] (fun y k => ∃ j z : Nat, j ≤ n ∧ k = .int .i64 j ∧ y = .int .u64 (z : Int) ∧ z < 18446744073709551616 ∧ Hid (z = wth x f j v)) (fun _ k => n - (intOf k).toNat)
  case atStart => exact ⟨0, x, by omega, rfl, rfl, hx, Lib.hid (wth_zero x f v).symm⟩
  case round =>
    obtain ⟨j, z, hj, rfl, rfl, hz, hzz⟩ := hrel
    by_cases hlt : j < n
    · have hp : 2 ^ (f + j) ≤ 2 ^ 63 := Nat.pow_le_pow_right (by omega) (by omega)
      obtain ⟨p, hpp⟩ : ∃ p : Nat, p = 2 ^ (f + j) := ⟨_, rfl⟩
      obtain ⟨b, hb⟩ : ∃ b : Nat, b = z / 2 ^ (f + j) % 2 := ⟨_, rfl⟩
      obtain ⟨c, hc⟩ : ∃ c : Nat, c = v / 2 ^ j % 2 := ⟨_, rfl⟩
      have hb2 : b < 2 := by rw [hb]; omega
      have hc2 : c < 2 := by rw [hc]; omega
      have hp2 : p ≤ 9223372036854775808 := by rw [hpp]; exact hp
      have hbp : b * p ≤ 9223372036854775808 := by
        have : b = 0 ∨ b = 1 := by omega
        rcases this with rfl | rfl <;> omega
      have hcp : c * p ≤ 9223372036854775808 := by
        have : c = 0 ∨ c = 1 := by omega
        rcases this with rfl | rfl <;> omega
      have hbz : b * p ≤ z := by rw [hb, hpp, hzz.out, wth_hi]; exact wth_ge x f j v
      have hs : wth x f (j + 1) v = z - b * p + c * p := by rw [wth_succ, hb, hpp, hc, hzz.out, wth_hi]
      have hz2 : z - b * p + c * p < 18446744073709551616 := by
        rw [← hs]
        exact wth_lt (k := j + 1) hx (by omega)
      have HS := Lib.hid hs; have HP := Lib.hid hpp; have HB := Lib.hid hb; have HC := Lib.hid hc; clear hs hpp hb hp hc
      go_wp2_with fail
      rw [show (f : Int) + (j : Int) = ((f + j : Nat) : Int) by omega]
      refine (bit_any z (f + j) b HB.out _ hz (by omega)).mono ?_
      rintro e w' ⟨rfl, rfl⟩
      go_wp2_with fail
      rw [show (f : Int) + (j : Int) = ((f + j : Nat) : Int) by omega]
      refine (power_any (f + j) p HP.out _ (by omega)).mono ?_
      rintro e w' ⟨rfl, rfl⟩
      have hm : (b : Int) * (p : Int) = ((b * p : Nat) : Int) := by simp
      have hm2 : (c : Int) * (p : Int) = ((c * p : Nat) : Int) := by simp
      have h0 : (0 : Int) ≤ (b : Int) * (p : Int) := by rw [hm]; omega
      have h1 : (b : Int) * (p : Int) ≤ (z : Int) := by rw [hm]; omega
      have h3 : (0 : Int) ≤ (c : Int) * (p : Int) := by rw [hm2]; omega
      have h4 : (c : Int) * (p : Int) ≤ 9223372036854775808 := by rw [hm2]; omega
      have h2 : (z : Int) - (b : Int) * (p : Int) + (c : Int) * (p : Int) < 18446744073709551616 := by rw [hm, hm2]; omega
      have HM := Lib.hid hm; clear hm
      have HM2 := Lib.hid hm2; clear hm2
      go_wp2_with fail
      refine (bit_any v j c HC.out _ hv (by omega)).mono ?_
      rintro e w' ⟨rfl, rfl⟩
      go_wp2_with fail
      rw [show (f : Int) + (j : Int) = ((f + j : Nat) : Int) by omega]
      refine (power_any (f + j) p HP.out _ (by omega)).mono ?_
      rintro e w' ⟨rfl, rfl⟩
      go_wp2
      go_round
      case rel => exact ⟨j + 1, z - b * p + c * p, by omega, by go_num, congrArg _ (by have h5 := HM.out; have h6 := HM2.out; omega), by omega, Lib.hid HS.out.symm⟩
      case measure => simp [intOf]; omega
    · obtain rfl : j = n := by omega
      go_wp2
      go_ret
      exact ⟨ret_int (by rw [hzz.out, HR.out]), rfl⟩
end Go.Proofs.Ytmbokdnndlnjkaa
namespace Go.Proofs.Ytmbokdnndlnjkaa.L02
def SizeOk (n : Int) : Prop := 256 ≤ n ∧ n ≤ 2048 ∧ n % 8 = 0
instance (n : Int) : Decidable (SizeOk n) := inferInstanceAs (Decidable (256 ≤ n ∧ n ≤ 2048 ∧ n % 8 = 0))
def chk (l : List UInt64) : Int := if SizeOk l.length then 0 else 8
def InR (l : List UInt64) (at_ n : Int) : Prop := 0 ≤ at_ ∧ 0 ≤ n ∧ at_ ≤ l.length ∧ n ≤ l.length - at_
instance (l : List UInt64) (at_ n : Int) : Decidable (InR l at_ n) := inferInstanceAs (Decidable (0 ≤ at_ ∧ 0 ≤ n ∧ at_ ≤ l.length ∧ n ≤ l.length - at_))
def rng (l : List UInt64) (at_ n : Int) : Int := if SizeOk l.length then (if InR l at_ n then 0 else 2) else 8
def get (l : List UInt64) (at_ n : Int) : List UInt64 := if rng l at_ n = 0 then (l.drop at_.toNat).take n.toNat else []
def put (l : List UInt64) (at_ : Int) (m : List UInt64) : List UInt64 := if rng l at_ m.length = 0 then l.take at_.toNat ++ (m ++ l.drop (at_.toNat + m.length)) else []
def diffsTo (a b : List UInt64) (k : Nat) : List Int := ((List.range k).filter fun i => decide (a[i]? ≠ b[i]?)).map Int.ofNat
def diffErr (a b : List UInt64) : Int := if SizeOk a.length ∧ SizeOk b.length then (if a.length = b.length then 0 else 2) else 8
def diffs (a b : List UInt64) : List Int := if diffErr a b = 0 then diffsTo a b a.length else []
def new (n : Int) : List UInt64 := if SizeOk n then List.replicate n.toNat 0 else []
def newErr (n : Int) : Int := if SizeOk n then 0 else 2
theorem chk_ok {l : List UInt64} (h : SizeOk l.length) : chk l = 0 := if_pos h
theorem chk_no {l : List UInt64} (h : ¬ SizeOk l.length) : chk l = 8 := if_neg h
theorem diffsTo_succ (a b : List UInt64) (k : Nat) : diffsTo a b (k + 1) = diffsTo a b k ++ (if a[k]? ≠ b[k]? then [(k : Int)] else []) := by
  unfold diffsTo
  rw [List.range_succ, List.filter_append, List.map_append]
  by_cases h : a[k]? = b[k]? <;> simp [h]
def same (a b : List UInt64) : Bool := decide (a = b)
end Go.Proofs.Ytmbokdnndlnjkaa.L02
namespace Go.Proofs.Ytmbokdnndlnjkaa
open Go.RowKit L02
def Quiet (w w' : World) : Prop := ∃ n, w' = w.drewN n
theorem Quiet.below {w w' : World} (h : Quiet w w') : Below w.heap.size w w' := by obtain ⟨n, rfl⟩ := h; exact below_drewN (Below.refl _ _) n
theorem Size_any (n : Int) (b : Bool) (hb : b = decide (SizeOk n)) (w : World) : Calls Try.prog 100 #[.int .i64 n] w fun e w' => e = .returned (.bool b) ∧ w = w' := by
  have HB := Lib.hid hb; clear hb
  go_enter Try.func100, Try.ntmps100
  go_wp2
  all_goals
    go_ret
    exact ⟨ret_bool (by rw [HB.out]; exact bool_dec (by simp [SizeOk]; try omega)), rfl⟩
theorem Check_any (v : Value) (l : List UInt64) (w : World) (h : Words w v l) : Calls Try.prog 60 #[v] w fun e w' => e = .returned (.int .i64 (chk l)) ∧ w = w' := by
  have l1 := Rd.len h Try.underlying22
  have H := Lib.hid h; clear h
  by_cases hs : SizeOk l.length
  · rw [chk_ok hs]
    have HS := Lib.hid hs; clear hs
    go_enter Try.func60, Try.ntmps60
    go_wp2_with (go_at_call 100; refine (Size_any _ true (decide_eq_true HS.out).symm _).mono ?_; rintro e w' ⟨rfl, rfl⟩)
    go_ret
    exact ⟨rfl, rfl⟩
  · rw [chk_no hs]
    have HS := Lib.hid hs; clear hs
    go_enter Try.func60, Try.ntmps60
    go_wp2_with (go_at_call 100; refine (Size_any _ false (decide_eq_false HS.out).symm _).mono ?_; rintro e w' ⟨rfl, rfl⟩)
    go_ret
    exact ⟨rfl, rfl⟩
theorem Great_any (v : Value) (l : List UInt64) (w : World) (h : Words w v l) : Calls Try.prog 26 #[v] w fun e w' => e = .returned (.bool (decide (2100 < l.length))) ∧ w = w' := by
  have l1 := Rd.len h Try.underlying22
  clear h
  go_enter Try.func26, Try.ntmps26
  go_wp2
  go_ret
  exact ⟨ret_bool (by first | rfl | (congr 1; simp; omega) | simp), rfl⟩
end Go.Proofs.Ytmbokdnndlnjkaa
namespace Go.Proofs.Ytmbokdnndlnjkaa
open Go.RowKit
/-- A world that may come behind w: all that w has is there, unchanged. -/
structure Fut (w : World) where
  W : World
  h : Below w.heap.size w W
instance (w : World) : Nonempty (Fut w) := ⟨⟨w, Below.refl _ _⟩⟩
section
variable {P : Program} {w : World}
theorem Bx.at_ {n : Nat} {t : TypeId} {cs : Array Value} (h : w.heap.size = n) : Bx (w.alloc (.cells cs t)) n t cs := by subst h; exact Bx.new w t cs
theorem Fut.call {f : FuncId} {args : Array Value} {v : Value} {x : Fut w} (h : Calls P f args x.W fun e w' => e = .returned v ∧ Below x.W.heap.size x.W w') :
    Calls P f args x.W fun e w'' => e = .returned v ∧ ∃ y : Fut w, w'' = y.W :=
  h.mono fun _ w' ⟨he, hb⟩ => ⟨he, ⟨w', x.h.trans (hb.mono x.h.size)⟩, rfl⟩
theorem Fut.same {f : FuncId} {args : Array Value} {v : Value} {x : Fut w} (h : Calls P f args x.W fun e w' => e = .returned v ∧ x.W = w') :
    Calls P f args x.W fun e w'' => e = .returned v ∧ ∃ y : Fut w, w'' = y.W :=
  h.mono fun _ w' ⟨he, hb⟩ => ⟨he, x, hb.symm⟩
theorem wp_region_calm {id : Nat} {Q : Exit → Act → World → Prop} {a : Act} {l : List Oper} (hm : P.follows .mixedOrders = true) (hB : Region.lexB .any l.toArray = true)
    (h : wpQuiet P l.toArray (fun w' => ∃ x : Fut w, w' = x.W) (fun a' => ∀ w', (∃ x : Fut w, w' = x.W) → Q .normal a' w') l a) : (Code.region id l.toArray true).wp P Q a w :=
  wp_region_quiet (C := fun w' => ∃ x : Fut w, w' = x.W) hm hB ⟨⟨_, below_drewN (Below.refl _ _) 1⟩, rfl⟩ (by simpa using h)
end
end Go.Proofs.Ytmbokdnndlnjkaa
namespace Go.Proofs.Ytmbokdnndlnjkaa
open Go.RowKit
/-- cells of an array, some of them set -/
def putL (cs : Array Value) : Nat → List Value → Array Value
  | _, [] => cs
  | o, v :: r => putL (cs.setIfInBounds o v) (o + 1) r
theorem putL_size : ∀ (l : List Value) (o : Nat) (cs : Array Value), (putL cs o l).size = cs.size
  | [], _, _ => rfl
  | v :: r, o, cs => by rw [putL, putL_size r]; simp
theorem putL_get : ∀ (l : List Value) (o : Nat) (cs : Array Value) (i : Nat), o + l.length ≤ cs.size → (putL cs o l)[i]? = if o ≤ i ∧ i < o + l.length then l[i - o]? else cs[i]?
  | [], o, cs, i, _ => by simp [putL]; omega
  | v :: r, o, cs, i, h => by
    have h' : o + 1 + r.length ≤ cs.size := by simp at h; omega
    rw [putL, putL_get r (o + 1) _ i (by simpa using h')]
    by_cases h1 : i = o
    · subst h1
      rw [if_neg (by omega), if_pos (by simp)]
      rw [List.length_cons] at h
      rw [Array.getElem?_setIfInBounds, if_pos rfl, if_pos (by omega)]
      simp
    · by_cases h2 : o + 1 ≤ i ∧ i < o + 1 + r.length
      · rw [if_pos h2, if_pos (by simp; omega)]
        rw [show i - o = (i - (o + 1)) + 1 by omega, List.getElem?_cons_succ]
      · rw [if_neg h2, if_neg (by rw [List.length_cons]; omega)]
        rw [Array.getElem?_setIfInBounds_ne (by omega)]
theorem Bx.setCells {w : World} {g : Nat} {t : TypeId} : ∀ (l : List Value) (o : Nat) {cs : Array Value}, Bx w g t cs → Bx (w.setCells g o l) g t (putL cs o l)
  | [], _, _, h => h
  | v :: r, o, cs, h => by
    rw [World.setCells, putL]
    have h1 : Bx (w.setCell ⟨g, o, none⟩ v) g t (cs.setIfInBounds o v) := h.set v
    exact Bx.setCells (w := w.setCell ⟨g, o, none⟩ v) r (o + 1) h1
theorem setCells_far {g g' : Nat} {t : TypeId} {cs : Array Value} (hn : g' ≠ g) : ∀ (l : List Value) (o : Nat) (w : World), Bx w g' t cs → Bx (w.setCells g o l) g' t cs
  | [], _, _, h => h
  | v :: r, o, w, h => by
    rw [World.setCells]
    exact setCells_far hn r (o + 1) _ (h.far (p := ⟨g, o, none⟩) hn v)
theorem cell_far {w : World} {p q : Addr} {u v : Value} (h : w.cell? p = some v) (hn : p.block ≠ q.block) : (w.setCell q u).cell? p = some v := by
  rw [World.cell?_of_block (w := w) (Below.heap_setCell w q u p.block hn)]; exact h
theorem below_setCells {B g : Nat} {w0 : World} (hg : B ≤ g) : ∀ (l : List Value) (o : Nat) (w : World), Below B w0 w → Below B w0 (w.setCells g o l)
  | [], _, _, h => h
  | v :: r, o, w, h => by
    rw [World.setCells]
    exact below_setCells hg r (o + 1) _ (h.setCell (p := ⟨g, o, none⟩) hg v)
/-- a literal of structs -/
theorem lit_rdK {w : World} {cs : Array Value} {e : TypeId} {n sz : Nat} (h : cs.size = n * sz) (hn : n ≤ 1048576) : Rd (w.alloc (.cells cs e)) sz (.slice (some ⟨w.heap.size, 0, none⟩) n n) n cs.toList := by
  refine ⟨_, n, rfl, by omega, by omega, by simpa using h, fun h => (by cases h), fun _ ad h => ?_⟩
  cases h
  refine ⟨rfl, by simp, fun j u hu => ?_⟩
  rw [show (0 + j) = j by omega, cell_of_row _ w.heap.size j cs e (0, 0) (heap_alloc_new w _)]
  simpa using hu
section
variable {P : Program} {ops : Array Oper} {rest : List Oper} {o : Oper} {a : Act} {Q : Exit → Act → World → Prop} {w : World}
/-- what a store into block g leaves alone -/
def Sets (w W : World) (g : Nat) : Prop := (∀ {B : Nat} {w0 : World}, Below B w0 w → B ≤ g → Below B w0 W) ∧ ∀ {g' : Nat} {t : TypeId} {cs : Array Value}, g' ≠ g → Bx w g' t cs → Bx W g' t cs
theorem wpList_storeRow (hgd : o.guard = none) (ty : TypeId) (x y : Operand) (ho : o.op = .store ty x y) (g : Nat) (cells : Array Value) (hx : a.eval x = .pointer (some ⟨g, 0, none⟩)) (hy : a.eval y = .agg cells)
    {t : TypeId} {old : Array Value} (hg : Bx w g t old) (hi : (P.info? ty).map (·.size) = some cells.size) (hold : old.size = cells.size) (h1 : cells.all (·.oneCell') = true)
    (h : ∀ W, Bx W g t cells → Sets w W g → wpList P ops Q rest (a.put o.dst undef) W) : wpList P ops Q (o :: rest) a w :=
  wpList_plain hgd fun _ hK => wp_store_row ty x y ho g cells hx hy t old hg hi hold h1 (hK _ _ (h _ (setRow_heap w g old cells t (0, 0) hg)
    ⟨fun hb hB => below_setRow hb hB cells, fun hn hb => (setRow_other w g _ cells hn).trans hb⟩))
theorem wpList_storePart (hgd : o.guard = none) (ty : TypeId) (x y : Operand) (ho : o.op = .store ty x y) (g q : Nat) (cells : Array Value) (hx : a.eval x = .pointer (some ⟨g, q, none⟩)) (hy : a.eval y = .agg cells)
    {t : TypeId} {old : Array Value} (hg : Bx w g t old) (hi : (P.info? ty).map (·.size) = some cells.size) (hold : q + cells.size ≤ old.size) (h1 : cells.all (·.oneCell') = true)
    (h : ∀ W, Bx W g t (putL old q cells.toList) → Sets w W g → wpList P ops Q rest (a.put o.dst undef) W) : wpList P ops Q (o :: rest) a w := by
  refine wpList_store_mid hgd ty x y ho g q cells hx hy (fun j hj => ?_) hi h1 (h _ (hg.setCells _ _) ⟨fun hb hB => below_setCells hB _ _ _ hb, fun hn hb => setCells_far hn _ _ _ hb⟩)
  refine ⟨?_, hg.free _⟩
  rw [hg.cell, Array.getElem?_eq_getElem (by omega)]; rfl
theorem wpList_storeNew (hgd : o.guard = none) (ty : TypeId) (x y : Operand) (ho : o.op = .store ty x y) {w : World} {n : Nat} {zs : Array Value} (hn : w.heap.size = n) (cells : Array Value) (hx : a.eval x = .pointer (some ⟨n, 0, none⟩)) (hy : a.eval y = .agg cells)
    (hi : (P.info? ty).map (·.size) = some cells.size) (hold : zs.size = cells.size) (h1 : cells.all (·.oneCell') = true)
    (h : ∀ W, Bx W n ty cells → Below w.heap.size w W → wpList P ops Q rest (a.put o.dst undef) W) : wpList P ops Q (o :: rest) a (w.alloc (.cells zs ty)) := by
  subst hn
  refine wpList_storeRow hgd ty x y ho w.heap.size cells hx hy (Bx.new w ty zs) hi hold h1 fun W hW hS => h W hW (hS.1 ((Below.refl _ w).alloc (Nat.le_refl _) _) (Nat.le_refl _))
theorem wpList_loadRow (hgd : o.guard = none) (ty : TypeId) (x : Operand) (ho : o.op = .load ty x) (g : Nat) (hx : a.eval x = .pointer (some ⟨g, 0, none⟩)) {t : TypeId} {cs : Array Value} (hg : Bx w g t cs)
    (d : TypeDesc) (hu : P.underlying ty = some d) (hd : d.isRow = true) (hi : (P.info? ty).map (·.size) = some cs.size)
    (h : wpList P ops Q rest (a.put o.dst (.agg cs)) w) : wpList P ops Q (o :: rest) a w := by
  refine wpList_load_mid hgd ty x ho g 0 hx cs.toList d (fun j v hv => ?_) hu hd (by simpa using hi) (by simpa using h)
  rw [Nat.zero_add, hg.cell]; simpa using hv
/-- does the walk stand at this store, at this load? -/
theorem at_store (ty : TypeId) (x y : Nat) {t : TypeId} {p : String} {e : Array Edge} (h : wpList P ops Q (⟨none, .store ty (.tmp x) (.tmp y), t, p, e, none⟩ :: rest) a w) : wpList P ops Q (⟨none, .store ty (.tmp x) (.tmp y), t, p, e, none⟩ :: rest) a w := h
theorem at_load (d : Nat) (ty : TypeId) (x : Nat) {t : TypeId} {p : String} {e : Array Edge} (h : wpList P ops Q (⟨some d, .load ty (.tmp x), t, p, e, none⟩ :: rest) a w) : wpList P ops Q (⟨some d, .load ty (.tmp x), t, p, e, none⟩ :: rest) a w := h
theorem results_row {fn : Func} {p u : Tmp} {ty : TypeId} (h : fn.results = #[.cell p ty, .tmp u]) (tmps : Array Value) {g : Nat} (hp : tmps.getD p undef = .pointer (some ⟨g, 0, none⟩)) {t : TypeId} {cs : Array Value} (hg : Bx w g t cs)
    (d : TypeDesc) (hu : P.underlying ty = some d) (hd : d.isRow = true) (hi : (P.info? ty).map (·.size) = some cs.size) : (results fn tmps).run P w = .ok (.tuple #[.agg cs, tmps.getD u undef]) w := by
  have hl := run_loadVar_mid (P := P) w g 0 ty cs.toList d (fun j v hv => by rw [Nat.zero_add, hg.cell]; simpa using hv) hu hd (by simpa using hi)
  rw [results_cell_tmp h, hp]
  simp [asAddr, Result.andThen, hl]
end
end Go.Proofs.Ytmbokdnndlnjkaa
namespace Go.Proofs.Ytmbokdnndlnjkaa.L14
open L05
structure Hb where
  at_ : Int
  size : Int
  kind : Int
  ty : Int
  mark : Bool
  next : UInt64
deriving DecidableEq
def Hb.none : Hb := ⟨0, 0, 0, 0, false, 0⟩
def ObjB (b : Hb) : Prop := b.kind = 1 ∧ (0 ≤ b.ty ∧ b.ty < 8) ∧ b.size ≤ 10
instance (b : Hb) : Decidable (ObjB b) := inferInstanceAs (Decidable (_ ∧ _ ∧ _))
def FreeB (b : Hb) : Prop := b.kind = 2 ∧ b.ty = 0 ∧ b.mark = false ∧ b.size ≤ 1920
instance (b : Hb) : Decidable (FreeB b) := inferInstanceAs (Decidable (_ ∧ _ ∧ _ ∧ _))
def BkOk (b : Hb) : Prop := (2 ≤ b.size ∧ b.size % 2 = 0) ∧ (ObjB b ∨ FreeB b)
instance (b : Hb) : Decidable (BkOk b) := inferInstanceAs (Decidable (_ ∧ _))
def hErr (b : Hb) : Int := if BkOk b then 0 else 8
def mk1 (m : Bool) : Nat := if m then 1 else 0
/-- the lower half of a first word -/
def lowN (b : Hb) : Nat := b.kind.toNat + mk1 b.mark * 256 + b.ty.toNat * 512 + b.size.toNat * 65536
def partN (x : UInt64) : Nat := (sum [x]).toNat % 4294967296
def wordN (b : Hb) : Nat := lowN b + partN (UInt64.ofNat (lowN b)) * 4294967296
def word (b : Hb) : UInt64 := if BkOk b then UInt64.ofNat (wordN b) else 0
/-- what the lower half of a word tells -/
def told (x : UInt64) : Hb := ⟨0, (x.toNat / 65536 % 65536 : Nat), (x.toNat % 256 : Nat), (x.toNat / 512 % 128 : Nat), decide (x.toNat / 256 % 2 = 1), 0⟩
def HdOk (x : UInt64) : Prop := BkOk (told x) ∧ word (told x) = x
instance (x : UInt64) : Decidable (HdOk x) := inferInstanceAs (Decidable (_ ∧ _))
def split (x : UInt64) : Hb := if HdOk x then told x else .none
def splE (x : UInt64) : Int := if HdOk x then 0 else 50
theorem hErr_ok {b : Hb} (h : BkOk b) : hErr b = 0 := if_pos h
theorem hErr_no {b : Hb} (h : ¬ BkOk b) : hErr b = 8 := if_neg h
theorem mk1_le (m : Bool) : mk1 m ≤ 1 := by cases m <;> decide
theorem part_lt (x : UInt64) : partN x < 4294967296 := Nat.mod_lt _ (by decide)
/-- the bounds of a valid block -/
theorem BkOk.bounds {b : Hb} (h : BkOk b) : 2 ≤ b.size ∧ b.size % 2 = 0 ∧ b.size ≤ 1920 ∧ (b.kind = 1 ∨ b.kind = 2) ∧ 0 ≤ b.ty ∧ b.ty < 8 := by
  obtain ⟨⟨h1, h2⟩, h3 | h3⟩ := h
  · obtain ⟨a, c, d⟩ := h3; exact ⟨h1, h2, by omega, .inl a, c.1, c.2⟩
  · obtain ⟨a, c, d, e⟩ := h3; exact ⟨h1, h2, by omega, .inr a, by omega, by omega⟩
theorem lowN_lt {b : Hb} (h : BkOk b) : lowN b < 4294967296 := by
  have := h.bounds
  have := mk1_le b.mark
  unfold lowN; omega
theorem wordN_lt {b : Hb} (h : BkOk b) : wordN b < 18446744073709551616 := by
  have h1 := lowN_lt h
  have h2 := part_lt (UInt64.ofNat (lowN b))
  unfold wordN; omega
theorem word_nat {b : Hb} (h : BkOk b) : (word b).toNat = wordN b := by
  rw [word, if_pos h, UInt64.toNat_ofNat', Nat.mod_eq_of_lt (wordN_lt h)]
/-- the first word of a valid block tells it, but for its address and its second word -/
theorem told_word {b : Hb} (h : BkOk b) : told (word b) = ⟨0, b.size, b.kind, b.ty, b.mark, 0⟩ := by
  obtain ⟨h1, h2, h3, h4, h5, h6⟩ := h.bounds
  have hm := mk1_le b.mark
  have hn := word_nat h
  have hl : lowN b < 4294967296 := lowN_lt h
  have e1 : (word b).toNat % 4294967296 = lowN b := by rw [hn, wordN]; omega
  unfold lowN at e1
  have e2 : ((word b).toNat / 65536 % 65536 : Nat) = b.size.toNat := by omega
  have e3 : ((word b).toNat % 256 : Nat) = b.kind.toNat := by omega
  have e4 : ((word b).toNat / 512 % 128 : Nat) = b.ty.toNat := by omega
  have e5 : (word b).toNat / 256 % 2 = mk1 b.mark := by omega
  rw [told, e2, e3, e4, e5]
  obtain ⟨at_, size, kind, ty, mark, next⟩ := b
  dsimp only at *
  have a1 : (size.toNat : Int) = size := by omega
  have a2 : (kind.toNat : Int) = kind := by omega
  have a3 : (ty.toNat : Int) = ty := by omega
  rw [a1, a2, a3]
  cases mark <;> rfl
theorem ok_bare {b : Hb} {a : Int} {n : UInt64} : BkOk (⟨a, b.size, b.kind, b.ty, b.mark, n⟩ : Hb) ↔ BkOk b := Iff.rfl
theorem word_bare {b : Hb} {a : Int} {n : UInt64} : word (⟨a, b.size, b.kind, b.ty, b.mark, n⟩ : Hb) = word b := rfl
theorem hd_word {b : Hb} (h : BkOk b) : HdOk (word b) := by
  have e := told_word h
  refine ⟨by rw [e]; exact ok_bare.2 h, ?_⟩
  rw [e]; exact word_bare (b := b)
theorem split_word {b : Hb} (h : BkOk b) : split (word b) = ⟨0, b.size, b.kind, b.ty, b.mark, 0⟩ := by rw [split, if_pos (hd_word h), told_word h]
theorem split_ok {x : UInt64} (h : HdOk x) : BkOk (split x) := by rw [split, if_pos h]; exact h.1
theorem split_told {x : UInt64} (h : HdOk x) : split x = told x := if_pos h
end Go.Proofs.Ytmbokdnndlnjkaa.L14
