/- Contracts of the functions that the laws 'R' reach, part 2. No condition. -/
import Derived.Test.YtmbokdnndlnjkaaGreatMRa
set_option linter.unusedVariables false
set_option linter.unusedSimpArgs false
namespace Go.Proofs.YtmbokdnndlnjkaaGreat
open Go.RowKit L01
theorem bit_any (x i r : Nat) (hr : r = x / 2 ^ i % 2) (w : World) (hx : x < 18446744073709551616) (hi : i ≤ 64) :
    Calls Tryz.prog 149 #[.int .u64 (x : Int), .int .i64 (i : Int)] w fun e w' => e = .returned (.int .u64 (r : Int)) ∧ w = w' := by
  have HR := Lib.hid hr; clear hr
  go_enter Tryz.func149, Tryz.ntmps149
  go_wp2
  go_loop [0, 5] (fun y k => ∃ j z : Nat, j ≤ i ∧ k = .int .i64 j ∧ y = .int .u64 (z : Int) ∧ z < 18446744073709551616 ∧ Hid (z = x / 2 ^ j)) (fun _ k => i - (intOf k).toNat)
  case atStart => exact ⟨0, x, by omega, rfl, rfl, hx, Lib.hid (by simp)⟩
  case round =>
    obtain ⟨j, z, hj, rfl, rfl, hz, hzz⟩ := hrel
    by_cases hlt : j < i
    · go_wp2
      go_round
      case rel => exact ⟨j + 1, z / 2, by omega, by go_num, by go_num, by omega, Lib.hid (by rw [hzz.out, bit_div])⟩
      case measure => simp [intOf]; omega
    · obtain rfl : j = i := by omega
      go_wp2
      go_ret
      exact ⟨ret_int (by have h1 := hzz.out; have h2 := HR.out; rw [← h1] at h2; omega), rfl⟩
theorem power_any (i r : Nat) (hr : r = 2 ^ i) (w : World) (hi : i < 64) :
    Calls Tryz.prog 150 #[.int .i64 (i : Int)] w fun e w' => e = .returned (.int .u64 (r : Int)) ∧ w = w' := by
  have HR := Lib.hid hr; clear hr
  go_enter Tryz.func150, Tryz.ntmps150
  go_wp2
  go_loop [3, 4] (fun y k => ∃ j z : Nat, j ≤ i ∧ k = .int .i64 j ∧ y = .int .u64 (z : Int) ∧ z < 18446744073709551616 ∧ Hid (z = 2 ^ j)) (fun _ k => i - (intOf k).toNat)
  case atStart => exact ⟨0, 1, by omega, rfl, rfl, by omega, Lib.hid rfl⟩
  case round =>
    obtain ⟨j, z, hj, rfl, rfl, hz, hzz⟩ := hrel
    by_cases hlt : j < i
    · have h2 : 2 * z < 18446744073709551616 := by
        have h3 : 2 ^ (j + 1) ≤ 2 ^ 63 := Nat.pow_le_pow_right (by omega) (by omega)
        rw [hzz.out, Nat.mul_comm, ← Nat.pow_succ]; exact Nat.lt_of_le_of_lt h3 (by decide)
      go_wp2
      go_round
      case rel => exact ⟨j + 1, 2 * z, by omega, by go_num, by go_num, by omega, Lib.hid (by rw [hzz.out, Nat.mul_comm, ← Nat.pow_succ])⟩
      case measure => simp [intOf]; omega
    · obtain rfl : j = i := by omega
      go_wp2
      go_ret
      exact ⟨ret_int (by rw [hzz.out, HR.out]), rfl⟩
set_option maxHeartbeats 1000000 in
theorem Value_any (x f n r : Nat) (hr : r = val x f n) (w : World) (hx : x < 18446744073709551616) (hn : f + n ≤ 64) (h63 : n ≤ 63) :
    Calls Tryz.prog 151 #[.int .u64 (x : Int), .int .i64 (f : Int), .int .i64 (n : Int)] w fun e w' => e = .returned (.int .u64 (r : Int)) ∧ w = w' := by
  have HR := Lib.hid hr; clear hr
  go_enter Tryz.func151, Tryz.ntmps151
  go_wp2
  go_loop [7, 8] (fun y k => ∃ j z : Nat, j ≤ n ∧ k = .int .i64 j ∧ y = .int .u64 (z : Int) ∧ z < 18446744073709551616 ∧ Hid (z = val x f j)) (fun _ k => n - (intOf k).toNat)
  case atStart => exact ⟨0, 0, by omega, rfl, rfl, by omega, Lib.hid (val_zero x f).symm⟩
  case round =>
    obtain ⟨j, z, hj, rfl, rfl, hz, hzz⟩ := hrel
    by_cases hlt : j < n
    · have hp : 2 ^ j ≤ 2 ^ 62 := Nat.pow_le_pow_right (by omega) (by omega)
      obtain ⟨p, hpp⟩ : ∃ p : Nat, p = 2 ^ j := ⟨_, rfl⟩
      obtain ⟨b, hb⟩ : ∃ b : Nat, b = x / 2 ^ (f + j) % 2 := ⟨_, rfl⟩
      have hb2 : b < 2 := by rw [hb]; omega
      have hp2 : p ≤ 4611686018427387904 := by rw [hpp]; exact hp
      have hbp : b * p < 4611686018427387905 := by
        have : b = 0 ∨ b = 1 := by omega
        rcases this with rfl | rfl <;> omega
      have hs : val x f (j + 1) = z + b * p := by rw [val_succ, hzz.out, hb, hpp]
      have hz2 : z + b * p < 9223372036854775808 := by
        rw [← hs]
        have h1 := val_lt x f (j + 1)
        have h2 : 2 ^ (j + 1) ≤ 2 ^ 63 := Nat.pow_le_pow_right (by omega) (by omega)
        exact Nat.lt_of_lt_of_le h1 h2
      have HS := Lib.hid hs; have HP := Lib.hid hpp; have HB := Lib.hid hb; clear hs hpp hb hp
      go_wp2_with fail
      rw [show (f : Int) + (j : Int) = ((f + j : Nat) : Int) by omega]
      refine (bit_any x (f + j) b HB.out _ hx (by omega)).mono ?_
      rintro e w' ⟨rfl, rfl⟩
      go_wp2_with fail
      refine (power_any j p HP.out _ (by omega)).mono ?_
      rintro e w' ⟨rfl, rfl⟩
      have hm : (b : Int) * (p : Int) = ((b * p : Nat) : Int) := by simp
      have h0 : (0 : Int) ≤ (b : Int) * (p : Int) := by rw [hm]; omega
      have h1 : (b : Int) * (p : Int) < 4611686018427387905 := by rw [hm]; omega
      have h2 : (z : Int) + (b : Int) * (p : Int) < 9223372036854775808 := by rw [hm]; omega
      have HM := Lib.hid hm; clear hm
      go_wp2
      go_round
      case rel => exact ⟨j + 1, z + b * p, by omega, by go_num, by have := HM.out; go_num, by omega, Lib.hid HS.out.symm⟩
      case measure => simp [intOf]; omega
    · obtain rfl : j = n := by omega
      go_wp2
      go_ret
      exact ⟨ret_int (by rw [hzz.out, HR.out]), rfl⟩
set_option maxHeartbeats 1000000 in
theorem With_any (x f n v r : Nat) (hr : r = wth x f n v) (w : World) (hx : x < 18446744073709551616) (hv : v < 18446744073709551616) (hn : f + n ≤ 64) (h63 : n ≤ 63) :
    Calls Tryz.prog 131 #[.int .u64 (x : Int), .int .i64 (f : Int), .int .i64 (n : Int), .int .u64 (v : Int)] w fun e w' => e = .returned (.int .u64 (r : Int)) ∧ w = w' := by
  have HR := Lib.hid hr; clear hr
  go_enter Tryz.func131, Tryz.ntmps131
  go_wp2
  go_loop [0, 9] (fun y k => ∃ j z : Nat, j ≤ n ∧ k = .int .i64 j ∧ y = .int .u64 (z : Int) ∧ z < 18446744073709551616 ∧ Hid (z = wth x f j v)) (fun _ k => n - (intOf k).toNat)
  case atStart => exact ⟨0, x, by omega, rfl, rfl, hx, Lib.hid (wth_zero x f v).symm⟩
  case round =>
    obtain ⟨j, z, hj, rfl, rfl, hz, hzz⟩ := hrel
    by_cases hlt : j < n
    · have hp : 2 ^ (f + j) ≤ 2 ^ 63 := Nat.pow_le_pow_right (by omega) (by omega)
      obtain ⟨p, hpp⟩ : ∃ p : Nat, p = 2 ^ (f + j) := ⟨_, rfl⟩
      obtain ⟨b, hb⟩ : ∃ b : Nat, b = z / 2 ^ (f + j) % 2 := ⟨_, rfl⟩
      obtain ⟨c, hc⟩ : ∃ c : Nat, c = v / 2 ^ j % 2 := ⟨_, rfl⟩
      have hb2 : b < 2 := by rw [hb]; omega
      have hc2 : c < 2 := by rw [hc]; omega
      have hp2 : p ≤ 9223372036854775808 := by rw [hpp]; exact hp
      have hbp : b * p ≤ 9223372036854775808 := by
        have : b = 0 ∨ b = 1 := by omega
        rcases this with rfl | rfl <;> omega
      have hcp : c * p ≤ 9223372036854775808 := by
        have : c = 0 ∨ c = 1 := by omega
        rcases this with rfl | rfl <;> omega
      have hbz : b * p ≤ z := by rw [hb, hpp, hzz.out, wth_hi]; exact wth_ge x f j v
      have hs : wth x f (j + 1) v = z - b * p + c * p := by rw [wth_succ, hb, hpp, hc, hzz.out, wth_hi]
      have hz2 : z - b * p + c * p < 18446744073709551616 := by
        rw [← hs]
        exact wth_lt (k := j + 1) hx (by omega)
      have HS := Lib.hid hs; have HP := Lib.hid hpp; have HB := Lib.hid hb; have HC := Lib.hid hc; clear hs hpp hb hp hc
      go_wp2_with fail
      rw [show (f : Int) + (j : Int) = ((f + j : Nat) : Int) by omega]
      refine (bit_any z (f + j) b HB.out _ hz (by omega)).mono ?_
      rintro e w' ⟨rfl, rfl⟩
      go_wp2_with fail
      rw [show (f : Int) + (j : Int) = ((f + j : Nat) : Int) by omega]
      refine (power_any (f + j) p HP.out _ (by omega)).mono ?_
      rintro e w' ⟨rfl, rfl⟩
      have hm : (b : Int) * (p : Int) = ((b * p : Nat) : Int) := by simp
      have hm2 : (c : Int) * (p : Int) = ((c * p : Nat) : Int) := by simp
      have h0 : (0 : Int) ≤ (b : Int) * (p : Int) := by rw [hm]; omega
      have h1 : (b : Int) * (p : Int) ≤ (z : Int) := by rw [hm]; omega
      have h3 : (0 : Int) ≤ (c : Int) * (p : Int) := by rw [hm2]; omega
      have h4 : (c : Int) * (p : Int) ≤ 9223372036854775808 := by rw [hm2]; omega
      have h2 : (z : Int) - (b : Int) * (p : Int) + (c : Int) * (p : Int) < 18446744073709551616 := by rw [hm, hm2]; omega
      have HM := Lib.hid hm; clear hm
      have HM2 := Lib.hid hm2; clear hm2
      go_wp2_with fail
      refine (bit_any v j c HC.out _ hv (by omega)).mono ?_
      rintro e w' ⟨rfl, rfl⟩
      go_wp2_with fail
      rw [show (f : Int) + (j : Int) = ((f + j : Nat) : Int) by omega]
      refine (power_any (f + j) p HP.out _ (by omega)).mono ?_
      rintro e w' ⟨rfl, rfl⟩
      go_wp2
      go_round
      case rel => exact ⟨j + 1, z - b * p + c * p, by omega, by go_num, congrArg _ (by have h5 := HM.out; have h6 := HM2.out; omega), by omega, Lib.hid HS.out.symm⟩
      case measure => simp [intOf]; omega
    · obtain rfl : j = n := by omega
      go_wp2
      go_ret
      exact ⟨ret_int (by rw [hzz.out, HR.out]), rfl⟩
end Go.Proofs.YtmbokdnndlnjkaaGreat
namespace Go.Proofs.YtmbokdnndlnjkaaGreat.L02
def SizeOk (n : Int) : Prop := 256 ≤ n ∧ n ≤ 2048 ∧ n % 8 = 0
instance (n : Int) : Decidable (SizeOk n) := inferInstanceAs (Decidable (256 ≤ n ∧ n ≤ 2048 ∧ n % 8 = 0))
def chk (l : List UInt64) : Int := if SizeOk l.length then 0 else 8
def InR (l : List UInt64) (at_ n : Int) : Prop := 0 ≤ at_ ∧ 0 ≤ n ∧ at_ ≤ l.length ∧ n ≤ l.length - at_
instance (l : List UInt64) (at_ n : Int) : Decidable (InR l at_ n) := inferInstanceAs (Decidable (0 ≤ at_ ∧ 0 ≤ n ∧ at_ ≤ l.length ∧ n ≤ l.length - at_))
def rng (l : List UInt64) (at_ n : Int) : Int := if SizeOk l.length then (if InR l at_ n then 0 else 2) else 8
def get (l : List UInt64) (at_ n : Int) : List UInt64 := if rng l at_ n = 0 then (l.drop at_.toNat).take n.toNat else []
def put (l : List UInt64) (at_ : Int) (m : List UInt64) : List UInt64 := if rng l at_ m.length = 0 then l.take at_.toNat ++ (m ++ l.drop (at_.toNat + m.length)) else []
def diffsTo (a b : List UInt64) (k : Nat) : List Int := ((List.range k).filter fun i => decide (a[i]? ≠ b[i]?)).map Int.ofNat
def diffErr (a b : List UInt64) : Int := if SizeOk a.length ∧ SizeOk b.length then (if a.length = b.length then 0 else 2) else 8
def diffs (a b : List UInt64) : List Int := if diffErr a b = 0 then diffsTo a b a.length else []
def new (n : Int) : List UInt64 := if SizeOk n then List.replicate n.toNat 0 else []
def newErr (n : Int) : Int := if SizeOk n then 0 else 2
theorem chk_ok {l : List UInt64} (h : SizeOk l.length) : chk l = 0 := if_pos h
theorem chk_no {l : List UInt64} (h : ¬ SizeOk l.length) : chk l = 8 := if_neg h
theorem diffsTo_succ (a b : List UInt64) (k : Nat) : diffsTo a b (k + 1) = diffsTo a b k ++ (if a[k]? ≠ b[k]? then [(k : Int)] else []) := by
  unfold diffsTo
  rw [List.range_succ, List.filter_append, List.map_append]
  by_cases h : a[k]? = b[k]? <;> simp [h]
def same (a b : List UInt64) : Bool := decide (a = b)
end Go.Proofs.YtmbokdnndlnjkaaGreat.L02
namespace Go.Proofs.YtmbokdnndlnjkaaGreat
open Go.RowKit L02
def Quiet (w w' : World) : Prop := ∃ n, w' = w.drewN n
theorem Quiet.below {w w' : World} (h : Quiet w w') : Below w.heap.size w w' := by obtain ⟨n, rfl⟩ := h; exact below_drewN (Below.refl _ _) n
theorem same_refl (l : List UInt64) : same l l = true := by simp [same]
theorem same_step {a b : List UInt64} {k : Nat} {x y : UInt64} (h : a.take k = b.take k) (hx : a[k]? = some x) (hy : b[k]? = some y) (e : ((x.toNat : Int) != y.toNat) = false) : a.take (k+1) = b.take (k+1) := by
  have : x = y := by simp at e; exact UInt64.toNat_inj.1 (by omega)
  rw [List.take_add_one, List.take_add_one, h, hx, hy, this]
theorem same_no {a b : List UInt64} {k : Nat} {x y : UInt64} (hx : a[k]? = some x) (hy : b[k]? = some y) (e : ((x.toNat : Int) != y.toNat) = true) : same a b = false := by
  simp [same]; rintro rfl; rw [hx] at hy; cases hy; simp at e
theorem same_len {a b : List UInt64} (h : a.length ≠ b.length) : same a b = false := by
  simp [same]; rintro rfl; exact h rfl
theorem same_end {a b : List UInt64} {k : Nat} (h : a.take k = b.take k) (ha : a.length ≤ k) (hb : b.length ≤ k) : same a b = true := by
  rw [List.take_of_length_le ha, List.take_of_length_le hb] at h; simp [same, h]
set_option maxHeartbeats 400000 in
theorem Same_any (va vb : Value) (la lb : List UInt64) (w : World) (ha : Words w va la) (hb : Words w vb lb) :
    Calls Tryz.prog 21 #[va, vb] w fun e w' => e = .returned (.bool (same la lb)) ∧ Quiet w w' := by
  have la1 := Rd.len ha Tryz.underlying22; have lb1 := Rd.len hb Tryz.underlying22
  have la2 := Rd.len_le ha; have lb2 := Rd.len_le hb
  have HA := Lib.hid ha; have HB := Lib.hid hb; clear ha hb
  obtain ⟨na, hna⟩ : ∃ na, na = la.length := ⟨_, rfl⟩
  obtain ⟨nb, hnb⟩ : ∃ nb, nb = lb.length := ⟨_, rfl⟩
  rw [← hna] at la1 la2; rw [← hnb] at lb1 lb2
  have Hna := Lib.hid hna; have Hnb := Lib.hid hnb; clear hna hnb
  by_cases hl : na = nb
  · subst hl
    go_enter Tryz.func21, Tryz.ntmps21
    go_wp2
    go_loopw [5] (fun i wr => ∃ k n : Nat, k ≤ na ∧ i = .int .i64 k ∧ wr = w.drewN n ∧ la.take k = lb.take k) (fun i _ => na - (intOf i).toNat)
    case atStart => exact ⟨0, 0, Nat.zero_le _, rfl, rfl, by simp⟩
    case round =>
      obtain ⟨k, n, hk, rfl, rfl, heq⟩ := hrel
      have HE := Lib.hid heq; clear heq
      by_cases hlt : k < na
      · obtain ⟨ad, x, ia, ca', hx⟩ := HA.out.at_ Tryz.underlying22 one_u64 (k := k) (by have := Hna.out; omega)
        obtain ⟨bd, y, ib, cb', hy⟩ := HB.out.at_ Tryz.underlying22 one_u64 (k := k) (by have := Hnb.out; omega)
        go_wp2
        go_quiet (fail)
        go_wp2
        · go_ret
          exact ⟨ret_bool (same_no hx.out hy.out ‹_›).symm, _, World.drewN_drewN _ _ _⟩
        · go_roundw
          case rel => exact ⟨k + 1, _, by omega, by go_num, rfl, same_step HE.out hx.out hy.out ‹_›⟩
          case measure => simp [intOf]; omega
      · go_wp2
        go_ret
        exact ⟨ret_bool (same_end HE.out (by have := Hna.out; omega) (by have := Hnb.out; omega)).symm, _, rfl⟩
  · have hl' : ((na : Int) != nb) = true := by simp; omega
    go_enter Tryz.func21, Tryz.ntmps21
    go_wp2
    go_ret
    exact ⟨ret_bool (same_len (by have := Hna.out; have := Hnb.out; omega)).symm, 0, rfl⟩
theorem SizeR_any (n : Int) (b : Bool) (hb : b = decide (SizeOk n)) (w : World) : Calls Tryz.prog 160 #[.int .i64 n] w fun e w' => e = .returned (.bool b) ∧ w = w' := by
  have HB := Lib.hid hb; clear hb
  go_enter Tryz.func160, Tryz.ntmps160
  go_wp2
  all_goals
    go_ret
    exact ⟨ret_bool (by rw [HB.out]; exact bool_dec (by simp [SizeOk]; try omega)), rfl⟩
theorem Size_any (n : Int) (b : Bool) (hb : b = decide (SizeOk n)) (w : World) : Calls Tryz.prog 133 #[.int .i64 n] w fun e w' => e = .returned (.bool b) ∧ w = w' := by
  have HB := Lib.hid hb; clear hb
  go_enter Tryz.func133, Tryz.ntmps133
  go_wp2
  all_goals
    go_ret
    exact ⟨ret_bool (by rw [HB.out]; exact bool_dec (by simp [SizeOk]; try omega)), rfl⟩
theorem Check_any (v : Value) (l : List UInt64) (w : World) (h : Words w v l) : Calls Tryz.prog 83 #[v] w fun e w' => e = .returned (.int .i64 (chk l)) ∧ w = w' := by
  have l1 := Rd.len h Tryz.underlying22
  have H := Lib.hid h; clear h
  by_cases hs : SizeOk l.length
  · rw [chk_ok hs]
    have HS := Lib.hid hs; clear hs
    go_enter Tryz.func83, Tryz.ntmps83
    go_wp2_with (go_at_call 133; refine (Size_any _ true (decide_eq_true HS.out).symm _).mono ?_; rintro e w' ⟨rfl, rfl⟩)
    go_ret
    exact ⟨rfl, rfl⟩
  · rw [chk_no hs]
    have HS := Lib.hid hs; clear hs
    go_enter Tryz.func83, Tryz.ntmps83
    go_wp2_with (go_at_call 133; refine (Size_any _ false (decide_eq_false HS.out).symm _).mono ?_; rintro e w' ⟨rfl, rfl⟩)
    go_ret
    exact ⟨rfl, rfl⟩
theorem CheckR_any (v : Value) (l : List UInt64) (w : World) (h : Words w v l) : Calls Tryz.prog 144 #[v] w fun e w' => e = .returned (.int .i64 (chk l)) ∧ w = w' := by
  have l1 := Rd.len h Tryz.underlying22
  have H := Lib.hid h; clear h
  by_cases hs : SizeOk l.length
  · rw [chk_ok hs]
    have HS := Lib.hid hs; clear hs
    go_enter Tryz.func144, Tryz.ntmps144
    go_wp2_with (go_at_call 160; refine (SizeR_any _ true (decide_eq_true HS.out).symm _).mono ?_; rintro e w' ⟨rfl, rfl⟩)
    go_ret
    exact ⟨rfl, rfl⟩
  · rw [chk_no hs]
    have HS := Lib.hid hs; clear hs
    go_enter Tryz.func144, Tryz.ntmps144
    go_wp2_with (go_at_call 160; refine (SizeR_any _ false (decide_eq_false HS.out).symm _).mono ?_; rintro e w' ⟨rfl, rfl⟩)
    go_ret
    exact ⟨rfl, rfl⟩
theorem Great_any (v : Value) (l : List UInt64) (w : World) (h : Words w v l) : Calls Tryz.prog 6 #[v] w fun e w' => e = .returned (.bool (decide (2100 < l.length))) ∧ w = w' := by
  have l1 := Rd.len h Tryz.underlying22
  clear h
  go_enter Tryz.func6, Tryz.ntmps6
  go_wp2
  go_ret
  exact ⟨ret_bool (by first | rfl | (congr 1; simp; omega) | simp), rfl⟩
end Go.Proofs.YtmbokdnndlnjkaaGreat
namespace Go.Proofs.YtmbokdnndlnjkaaGreat
open Go.RowKit
theorem Same_r (va vb : Value) (la lb : List UInt64) (r : Bool) (hr : r = L02.same la lb) (w : World) (ha : Words w va la) (hb : Words w vb lb) :
    Calls Tryz.prog 21 #[va, vb] w fun e w' => e = .returned (.bool r) ∧ Below w.heap.size w w' := by
  subst hr
  exact (Same_any va vb la lb w ha hb).mono fun _ _ ⟨h1, h2⟩ => ⟨h1, h2.below⟩
/-- A world that may come behind w: all that w has is there, unchanged. -/
structure Fut (w : World) where
  W : World
  h : Below w.heap.size w W
instance (w : World) : Nonempty (Fut w) := ⟨⟨w, Below.refl _ _⟩⟩
section
variable {P : Program} {w : World}
theorem Bx.at_ {n : Nat} {t : TypeId} {cs : Array Value} (h : w.heap.size = n) : Bx (w.alloc (.cells cs t)) n t cs := by subst h; exact Bx.new w t cs
theorem Fut.call {f : FuncId} {args : Array Value} {v : Value} {x : Fut w} (h : Calls P f args x.W fun e w' => e = .returned v ∧ Below x.W.heap.size x.W w') :
    Calls P f args x.W fun e w'' => e = .returned v ∧ ∃ y : Fut w, w'' = y.W :=
  h.mono fun _ w' ⟨he, hb⟩ => ⟨he, ⟨w', x.h.trans (hb.mono x.h.size)⟩, rfl⟩
theorem Fut.same {f : FuncId} {args : Array Value} {v : Value} {x : Fut w} (h : Calls P f args x.W fun e w' => e = .returned v ∧ x.W = w') :
    Calls P f args x.W fun e w'' => e = .returned v ∧ ∃ y : Fut w, w'' = y.W :=
  h.mono fun _ w' ⟨he, hb⟩ => ⟨he, x, hb.symm⟩
theorem wp_region_calm {id : Nat} {Q : Exit → Act → World → Prop} {a : Act} {l : List Oper} (hm : P.follows .mixedOrders = true) (hB : Region.lexB .any l.toArray = true)
    (h : wpQuiet P l.toArray (fun w' => ∃ x : Fut w, w' = x.W) (fun a' => ∀ w', (∃ x : Fut w, w' = x.W) → Q .normal a' w') l a) : (Code.region id l.toArray true).wp P Q a w :=
  wp_region_quiet (C := fun w' => ∃ x : Fut w, w' = x.W) hm hB ⟨⟨_, below_drewN (Below.refl _ _) 1⟩, rfl⟩ (by simpa using h)
end
end Go.Proofs.YtmbokdnndlnjkaaGreat
namespace Go.Proofs.YtmbokdnndlnjkaaGreat
open Go.RowKit
/-- cells of an array, some of them set -/
def putL (cs : Array Value) : Nat → List Value → Array Value
  | _, [] => cs
  | o, v :: r => putL (cs.setIfInBounds o v) (o + 1) r
theorem putL_size : ∀ (l : List Value) (o : Nat) (cs : Array Value), (putL cs o l).size = cs.size
  | [], _, _ => rfl
  | v :: r, o, cs => by rw [putL, putL_size r]; simp
theorem putL_get : ∀ (l : List Value) (o : Nat) (cs : Array Value) (i : Nat), o + l.length ≤ cs.size → (putL cs o l)[i]? = if o ≤ i ∧ i < o + l.length then l[i - o]? else cs[i]?
  | [], o, cs, i, _ => by simp [putL]; omega
  | v :: r, o, cs, i, h => by
    have h' : o + 1 + r.length ≤ cs.size := by simp at h; omega
    rw [putL, putL_get r (o + 1) _ i (by simpa using h')]
    by_cases h1 : i = o
    · subst h1
      rw [if_neg (by omega), if_pos (by simp)]
      rw [List.length_cons] at h
      rw [Array.getElem?_setIfInBounds, if_pos rfl, if_pos (by omega)]
      simp
    · by_cases h2 : o + 1 ≤ i ∧ i < o + 1 + r.length
      · rw [if_pos h2, if_pos (by simp; omega)]
        rw [show i - o = (i - (o + 1)) + 1 by omega, List.getElem?_cons_succ]
      · rw [if_neg h2, if_neg (by rw [List.length_cons]; omega)]
        rw [Array.getElem?_setIfInBounds_ne (by omega)]
theorem Bx.setCells {w : World} {g : Nat} {t : TypeId} : ∀ (l : List Value) (o : Nat) {cs : Array Value}, Bx w g t cs → Bx (w.setCells g o l) g t (putL cs o l)
  | [], _, _, h => h
  | v :: r, o, cs, h => by
    rw [World.setCells, putL]
    have h1 : Bx (w.setCell ⟨g, o, none⟩ v) g t (cs.setIfInBounds o v) := h.set v
    exact Bx.setCells (w := w.setCell ⟨g, o, none⟩ v) r (o + 1) h1
theorem setCells_far {g g' : Nat} {t : TypeId} {cs : Array Value} (hn : g' ≠ g) : ∀ (l : List Value) (o : Nat) (w : World), Bx w g' t cs → Bx (w.setCells g o l) g' t cs
  | [], _, _, h => h
  | v :: r, o, w, h => by
    rw [World.setCells]
    exact setCells_far hn r (o + 1) _ (h.far (p := ⟨g, o, none⟩) hn v)
theorem cell_far {w : World} {p q : Addr} {u v : Value} (h : w.cell? p = some v) (hn : p.block ≠ q.block) : (w.setCell q u).cell? p = some v := by
  rw [World.cell?_of_block (w := w) (Below.heap_setCell w q u p.block hn)]; exact h
theorem below_setCells {B g : Nat} {w0 : World} (hg : B ≤ g) : ∀ (l : List Value) (o : Nat) (w : World), Below B w0 w → Below B w0 (w.setCells g o l)
  | [], _, _, h => h
  | v :: r, o, w, h => by
    rw [World.setCells]
    exact below_setCells hg r (o + 1) _ (h.setCell (p := ⟨g, o, none⟩) hg v)
/-- a literal of structs -/
theorem lit_rdK {w : World} {cs : Array Value} {e : TypeId} {n sz : Nat} (h : cs.size = n * sz) (hn : n ≤ 1048576) : Rd (w.alloc (.cells cs e)) sz (.slice (some ⟨w.heap.size, 0, none⟩) n n) n cs.toList := by
  refine ⟨_, n, rfl, by omega, by omega, by simpa using h, fun h => (by cases h), fun _ ad h => ?_⟩
  cases h
  refine ⟨rfl, by simp, fun j u hu => ?_⟩
  rw [show (0 + j) = j by omega, cell_of_row _ w.heap.size j cs e (0, 0) (heap_alloc_new w _)]
  simpa using hu
section
variable {P : Program} {ops : Array Oper} {rest : List Oper} {o : Oper} {a : Act} {Q : Exit → Act → World → Prop} {w : World}
/-- what a store into block g leaves alone -/
def Sets (w W : World) (g : Nat) : Prop := (∀ {B : Nat} {w0 : World}, Below B w0 w → B ≤ g → Below B w0 W) ∧ ∀ {g' : Nat} {t : TypeId} {cs : Array Value}, g' ≠ g → Bx w g' t cs → Bx W g' t cs
theorem wpList_storeRow (hgd : o.guard = none) (ty : TypeId) (x y : Operand) (ho : o.op = .store ty x y) (g : Nat) (cells : Array Value) (hx : a.eval x = .pointer (some ⟨g, 0, none⟩)) (hy : a.eval y = .agg cells)
    {t : TypeId} {old : Array Value} (hg : Bx w g t old) (hi : (P.info? ty).map (·.size) = some cells.size) (hold : old.size = cells.size) (h1 : cells.all (·.oneCell') = true)
    (h : ∀ W, Bx W g t cells → Sets w W g → wpList P ops Q rest (a.put o.dst undef) W) : wpList P ops Q (o :: rest) a w :=
  wpList_plain hgd fun _ hK => wp_store_row ty x y ho g cells hx hy t old hg hi hold h1 (hK _ _ (h _ (setRow_heap w g old cells t (0, 0) hg)
    ⟨fun hb hB => below_setRow hb hB cells, fun hn hb => (setRow_other w g _ cells hn).trans hb⟩))
theorem wpList_storePart (hgd : o.guard = none) (ty : TypeId) (x y : Operand) (ho : o.op = .store ty x y) (g q : Nat) (cells : Array Value) (hx : a.eval x = .pointer (some ⟨g, q, none⟩)) (hy : a.eval y = .agg cells)
    {t : TypeId} {old : Array Value} (hg : Bx w g t old) (hi : (P.info? ty).map (·.size) = some cells.size) (hold : q + cells.size ≤ old.size) (h1 : cells.all (·.oneCell') = true)
    (h : ∀ W, Bx W g t (putL old q cells.toList) → Sets w W g → wpList P ops Q rest (a.put o.dst undef) W) : wpList P ops Q (o :: rest) a w := by
  refine wpList_store_mid hgd ty x y ho g q cells hx hy (fun j hj => ?_) hi h1 (h _ (hg.setCells _ _) ⟨fun hb hB => below_setCells hB _ _ _ hb, fun hn hb => setCells_far hn _ _ _ hb⟩)
  refine ⟨?_, hg.free _⟩
  rw [hg.cell, Array.getElem?_eq_getElem (by omega)]; rfl
theorem wpList_storeNew (hgd : o.guard = none) (ty : TypeId) (x y : Operand) (ho : o.op = .store ty x y) {w : World} {n : Nat} {zs : Array Value} (hn : w.heap.size = n) (cells : Array Value) (hx : a.eval x = .pointer (some ⟨n, 0, none⟩)) (hy : a.eval y = .agg cells)
    (hi : (P.info? ty).map (·.size) = some cells.size) (hold : zs.size = cells.size) (h1 : cells.all (·.oneCell') = true)
    (h : ∀ W, Bx W n ty cells → Below w.heap.size w W → wpList P ops Q rest (a.put o.dst undef) W) : wpList P ops Q (o :: rest) a (w.alloc (.cells zs ty)) := by
  subst hn
  refine wpList_storeRow hgd ty x y ho w.heap.size cells hx hy (Bx.new w ty zs) hi hold h1 fun W hW hS => h W hW (hS.1 ((Below.refl _ w).alloc (Nat.le_refl _) _) (Nat.le_refl _))
theorem wpList_loadRow (hgd : o.guard = none) (ty : TypeId) (x : Operand) (ho : o.op = .load ty x) (g : Nat) (hx : a.eval x = .pointer (some ⟨g, 0, none⟩)) {t : TypeId} {cs : Array Value} (hg : Bx w g t cs)
    (d : TypeDesc) (hu : P.underlying ty = some d) (hd : d.isRow = true) (hi : (P.info? ty).map (·.size) = some cs.size)
    (h : wpList P ops Q rest (a.put o.dst (.agg cs)) w) : wpList P ops Q (o :: rest) a w := by
  refine wpList_load_mid hgd ty x ho g 0 hx cs.toList d (fun j v hv => ?_) hu hd (by simpa using hi) (by simpa using h)
  rw [Nat.zero_add, hg.cell]; simpa using hv
/-- does the walk stand at this store, at this load? -/
theorem at_store (ty : TypeId) (x y : Nat) {t : TypeId} {p : String} {e : Array Edge} (h : wpList P ops Q (⟨none, .store ty (.tmp x) (.tmp y), t, p, e, none⟩ :: rest) a w) : wpList P ops Q (⟨none, .store ty (.tmp x) (.tmp y), t, p, e, none⟩ :: rest) a w := h
theorem at_load (d : Nat) (ty : TypeId) (x : Nat) {t : TypeId} {p : String} {e : Array Edge} (h : wpList P ops Q (⟨some d, .load ty (.tmp x), t, p, e, none⟩ :: rest) a w) : wpList P ops Q (⟨some d, .load ty (.tmp x), t, p, e, none⟩ :: rest) a w := h
theorem results_row {fn : Func} {p u : Tmp} {ty : TypeId} (h : fn.results = #[.cell p ty, .tmp u]) (tmps : Array Value) {g : Nat} (hp : tmps.getD p undef = .pointer (some ⟨g, 0, none⟩)) {t : TypeId} {cs : Array Value} (hg : Bx w g t cs)
    (d : TypeDesc) (hu : P.underlying ty = some d) (hd : d.isRow = true) (hi : (P.info? ty).map (·.size) = some cs.size) : (results fn tmps).run P w = .ok (.tuple #[.agg cs, tmps.getD u undef]) w := by
  have hl := run_loadVar_mid (P := P) w g 0 ty cs.toList d (fun j v hv => by rw [Nat.zero_add, hg.cell]; simpa using hv) hu hd (by simpa using hi)
  rw [results_cell_tmp h, hp]
  simp [asAddr, Result.andThen, hl]
end
end Go.Proofs.YtmbokdnndlnjkaaGreat
namespace Go.Proofs.YtmbokdnndlnjkaaGreat.L14
open L05
structure Hb where
  at_ : Int
  size : Int
  kind : Int
  ty : Int
  mark : Bool
  next : UInt64
deriving DecidableEq
def Hb.none : Hb := ⟨0, 0, 0, 0, false, 0⟩
def ObjB (b : Hb) : Prop := b.kind = 1 ∧ (0 ≤ b.ty ∧ b.ty < 8) ∧ b.size ≤ 10
instance (b : Hb) : Decidable (ObjB b) := inferInstanceAs (Decidable (_ ∧ _ ∧ _))
def FreeB (b : Hb) : Prop := b.kind = 2 ∧ b.ty = 0 ∧ b.mark = false ∧ b.size ≤ 1920
instance (b : Hb) : Decidable (FreeB b) := inferInstanceAs (Decidable (_ ∧ _ ∧ _ ∧ _))
def BkOk (b : Hb) : Prop := (2 ≤ b.size ∧ b.size % 2 = 0) ∧ (ObjB b ∨ FreeB b)
instance (b : Hb) : Decidable (BkOk b) := inferInstanceAs (Decidable (_ ∧ _))
def hErr (b : Hb) : Int := if BkOk b then 0 else 8
def mk1 (m : Bool) : Nat := if m then 1 else 0
/-- the lower half of a first word -/
def lowN (b : Hb) : Nat := b.kind.toNat + mk1 b.mark * 256 + b.ty.toNat * 512 + b.size.toNat * 65536
def partN (x : UInt64) : Nat := (sum [x]).toNat % 4294967296
def wordN (b : Hb) : Nat := lowN b + partN (UInt64.ofNat (lowN b)) * 4294967296
def word (b : Hb) : UInt64 := if BkOk b then UInt64.ofNat (wordN b) else 0
/-- what the lower half of a word tells -/
def told (x : UInt64) : Hb := ⟨0, (x.toNat / 65536 % 65536 : Nat), (x.toNat % 256 : Nat), (x.toNat / 512 % 128 : Nat), decide (x.toNat / 256 % 2 = 1), 0⟩
def HdOk (x : UInt64) : Prop := BkOk (told x) ∧ word (told x) = x
instance (x : UInt64) : Decidable (HdOk x) := inferInstanceAs (Decidable (_ ∧ _))
def split (x : UInt64) : Hb := if HdOk x then told x else .none
def splE (x : UInt64) : Int := if HdOk x then 0 else 50
theorem hErr_ok {b : Hb} (h : BkOk b) : hErr b = 0 := if_pos h
theorem hErr_no {b : Hb} (h : ¬ BkOk b) : hErr b = 8 := if_neg h
theorem mk1_le (m : Bool) : mk1 m ≤ 1 := by cases m <;> decide
theorem part_lt (x : UInt64) : partN x < 4294967296 := Nat.mod_lt _ (by decide)
/-- the bounds of a valid block -/
theorem BkOk.bounds {b : Hb} (h : BkOk b) : 2 ≤ b.size ∧ b.size % 2 = 0 ∧ b.size ≤ 1920 ∧ (b.kind = 1 ∨ b.kind = 2) ∧ 0 ≤ b.ty ∧ b.ty < 8 := by
  obtain ⟨⟨h1, h2⟩, h3 | h3⟩ := h
  · obtain ⟨a, c, d⟩ := h3; exact ⟨h1, h2, by omega, .inl a, c.1, c.2⟩
  · obtain ⟨a, c, d, e⟩ := h3; exact ⟨h1, h2, by omega, .inr a, by omega, by omega⟩
theorem lowN_lt {b : Hb} (h : BkOk b) : lowN b < 4294967296 := by
  have := h.bounds
  have := mk1_le b.mark
  unfold lowN; omega
theorem wordN_lt {b : Hb} (h : BkOk b) : wordN b < 18446744073709551616 := by
  have h1 := lowN_lt h
  have h2 := part_lt (UInt64.ofNat (lowN b))
  unfold wordN; omega
theorem word_nat {b : Hb} (h : BkOk b) : (word b).toNat = wordN b := by
  rw [word, if_pos h, UInt64.toNat_ofNat', Nat.mod_eq_of_lt (wordN_lt h)]
/-- the first word of a valid block tells it, but for its address and its second word -/
theorem told_word {b : Hb} (h : BkOk b) : told (word b) = ⟨0, b.size, b.kind, b.ty, b.mark, 0⟩ := by
  obtain ⟨h1, h2, h3, h4, h5, h6⟩ := h.bounds
  have hm := mk1_le b.mark
  have hn := word_nat h
  have hl : lowN b < 4294967296 := lowN_lt h
  have e1 : (word b).toNat % 4294967296 = lowN b := by rw [hn, wordN]; omega
  unfold lowN at e1
  have e2 : ((word b).toNat / 65536 % 65536 : Nat) = b.size.toNat := by omega
  have e3 : ((word b).toNat % 256 : Nat) = b.kind.toNat := by omega
  have e4 : ((word b).toNat / 512 % 128 : Nat) = b.ty.toNat := by omega
  have e5 : (word b).toNat / 256 % 2 = mk1 b.mark := by omega
  rw [told, e2, e3, e4, e5]
  obtain ⟨at_, size, kind, ty, mark, next⟩ := b
  dsimp only at *
  have a1 : (size.toNat : Int) = size := by omega
  have a2 : (kind.toNat : Int) = kind := by omega
  have a3 : (ty.toNat : Int) = ty := by omega
  rw [a1, a2, a3]
  cases mark <;> rfl
theorem ok_bare {b : Hb} {a : Int} {n : UInt64} : BkOk (⟨a, b.size, b.kind, b.ty, b.mark, n⟩ : Hb) ↔ BkOk b := Iff.rfl
theorem word_bare {b : Hb} {a : Int} {n : UInt64} : word (⟨a, b.size, b.kind, b.ty, b.mark, n⟩ : Hb) = word b := rfl
theorem hd_word {b : Hb} (h : BkOk b) : HdOk (word b) := by
  have e := told_word h
  refine ⟨by rw [e]; exact ok_bare.2 h, ?_⟩
  rw [e]; exact word_bare (b := b)
theorem split_word {b : Hb} (h : BkOk b) : split (word b) = ⟨0, b.size, b.kind, b.ty, b.mark, 0⟩ := by rw [split, if_pos (hd_word h), told_word h]
theorem split_ok {x : UInt64} (h : HdOk x) : BkOk (split x) := by rw [split, if_pos h]; exact h.1
theorem split_told {x : UInt64} (h : HdOk x) : split x = told x := if_pos h
end Go.Proofs.YtmbokdnndlnjkaaGreat.L14
namespace Go.Proofs.YtmbokdnndlnjkaaGreat
open Go.RowKit L01 L02 L05 L14
set_option maxHeartbeats 1000000 in
theorem HCheck_any (b : Hb) (r : Int) (hr : r = hErr b) (w : World) : Calls Tryz.prog 117 #[.agg #[.int .i64 b.at_, .int .i64 b.size, .int .i64 b.kind, .int .i64 b.ty, .bool b.mark, .int .u64 b.next.toNat]] w fun e w' => e = .returned (.int .i64 r) ∧ Below w.heap.size w w' := by
  have HB := Lib.hid hr; clear hr
  obtain ⟨at_, size, kind, ty, mark, next⟩ := b
  dsimp only at *
  cases mark
  all_goals
    go_enter Tryz.func117, Tryz.ntmps117
    go_wp2
    all_goals
      go_ret
      refine ⟨ret_int ?_, (Below.refl _ _).alloc (Nat.le_refl _) _⟩
      rw [HB.out]
      try simp only [Bool.not_eq_true', Bool.not_eq_false', decide_eq_true_eq, decide_eq_false_iff_not, beq_eq_false_iff_ne, beq_iff_eq, bne_iff_ne, bne_eq_false_iff_eq, ne_eq] at *
      first
      | exact (hErr_ok (by simp [BkOk, ObjB, FreeB]; try omega)).symm
      | exact (hErr_no (by simp [BkOk, ObjB, FreeB]; try omega)).symm
theorem mask32_any (w : World) : Calls Tryz.prog 168 #[.int .i64 0, .int .i64 32] w fun e w' => e = .returned (.int .u64 4294967295) ∧ w = w' := by
  go_enter Tryz.func168, Tryz.ntmps168
  go_wp2
  go_ret
  exact ⟨rfl, rfl⟩
theorem Get32_any (x : UInt64) (r : Nat) (hr : r = x.toNat % 4294967296) (w : World) : Calls Tryz.prog 156 #[.int .u64 x.toNat, .int .i64 0, .int .i64 32] w fun e w' => e = .returned (.tuple #[.int .u64 (r : Int), .int .i64 0]) ∧ w = w' := by
  have hxl := toNat_lt x
  have e1 := and_int (a := (x.toNat : Int)) 32 (by omega) (by omega) 4294967295 (by decide) (by omega)
  rw [show ((2 ^ 32 : Nat) : Int) = 4294967296 from rfl] at e1
  have e2 : (x.toNat : Int) % 4294967296 = (r : Int) := by rw [hr]; omega
  have e3 := e1.trans e2
  clear hr e1 e2
  go_enter Tryz.func156, Tryz.ntmps156
  go_wp2_with fail
  refine (mask32_any _).mono ?_
  rintro e w' ⟨rfl, rfl⟩
  go_wp2
  go_ret2
  exact ⟨rfl, rfl⟩
theorem Low32_any (v : Value) (l : List UInt64) (r : Nat) (hr : r = (sum l).toNat % 4294967296) (hl : l.length ≤ 2048) (w : World) (h : Words w v l) :
    Calls Tryz.prog 141 #[v, .int .i64 32] w fun e w' => e = .returned (.tuple #[.int .u64 (r : Int), .int .i64 0]) ∧ Below w.heap.size w w' := by
  obtain ⟨S, hS⟩ : ∃ S, S = sum l := ⟨_, rfl⟩
  rw [← hS] at hr
  have GT := Lib.hid (fun w => Get32_any S r hr w)
  have HO : Hid (∀ w, Words w v l → Calls Tryz.prog 153 #[v] w fun e w' => e = .returned (.tuple #[.int .u64 S.toNat, .int .i64 0]) ∧ Below w.heap.size w w') := by
    rw [hS]; exact Lib.hid (fun w h => Of_any v l w h hl)
  have B : Below w.heap.size w w := Below.refl _ _
  have H := Lib.hid h; clear h hr hS
  go_enter Tryz.func141, Tryz.ntmps141
  go_wp2_with fail
  refine (HO.out _ (H.out.below B)).mono ?_
  rintro e wa1 ⟨rfl, b⟩
  replace B := B.trans (b.mono B.size); clear b
  go_wp2_with fail
  refine (GT.out _).mono ?_
  rintro e w' ⟨rfl, rfl⟩
  go_wp2
  go_ret2
  exact ⟨rfl, B⟩
theorem lit_one {w : World} {e n : Nat} (x : UInt64) (hn : w.heap.size = n) : Words (w.alloc (.cells #[.int .u64 x.toNat] e)) (.slice (some ⟨n, 0, none⟩) 1 1) [x] := by
  subst hn; exact lit_words [x] rfl rfl (by simp)
set_option maxRecDepth 100000 in
theorem sealed_any (x : UInt64) (r : Nat) (hx : x.toNat < 4294967296) (hr : r = x.toNat + partN x * 4294967296) (w : World) :
    Calls Tryz.prog 119 #[.int .u64 x.toNat] w fun e w' => e = .returned (.tuple #[.int .u64 (r : Int), .int .i64 0]) ∧ Below w.heap.size w w' := by
  have B : Below w.heap.size w w := Below.refl _ _
  obtain ⟨p, hp⟩ : ∃ p, p = partN x := ⟨_, rfl⟩
  have hpl : p < 4294967296 := by rw [hp]; exact part_lt x
  have hp2 : (sum [x]).toNat % 4294967296 = p := hp.symm
  have LO := Lib.hid (fun v w h => Low32_any v [x] p hp2.symm (by simp) w h)
  have e1 := or_int (a := (x.toNat : Int)) (b := (p : Int) * 4294967296) 32 p (by omega) (by simp; omega) (by omega) (by omega) (by omega)
  have e2 : IntKind.u64.wrap ((p : Int) * 4294967296) = (p : Int) * 4294967296 := by rw [wrap_u64]; omega
  rw [← hp] at hr
  have HR := Lib.hid hr; clear hp hr hp2
  go_enter Tryz.func119, Tryz.ntmps119
  go_wp2_with fail
  refine (LO.out _ _ (lit_one x rfl)).mono ?_
  rintro e w' ⟨rfl, b⟩
  replace B := (B.alloc B.size _).trans (b.mono (by simp))
  go_wp2
  go_ret2
  exact ⟨by rw [HR.out]; congr 3, B⟩
set_option maxHeartbeats 1000000 in
theorem of_any (b : Hb) (hb : BkOk b) (lw : Nat) (hlw : lw = lowN b) (w : World) :
    Calls Tryz.prog 118 #[.agg #[.int .i64 b.at_, .int .i64 b.size, .int .i64 b.kind, .int .i64 b.ty, .bool b.mark, .int .u64 b.next.toNat]] w fun e w' => e = .returned (.agg #[.int .u64 (lw : Int), .int .u64 b.kind, .int .u64 b.ty, .int .u64 b.size, .int .u64 (mk1 b.mark : Nat)]) ∧ Below w.heap.size w w' := by
  have B : Below w.heap.size w w := Below.refl _ _
  obtain ⟨h1, h2, h3, h4, h5, h6⟩ := hb.bounds
  obtain ⟨at_, size, kind, ty, mark, next⟩ := b
  dsimp only at *
  obtain ⟨S, rfl⟩ := Int.eq_ofNat_of_zero_le (show 0 ≤ size by omega)
  obtain ⟨K, rfl⟩ := Int.eq_ofNat_of_zero_le (show 0 ≤ kind by omega)
  obtain ⟨T, rfl⟩ := Int.eq_ofNat_of_zero_le h5
  have w1 : IntKind.u64.wrap (K : Int) = K := by rw [wrap_u64]; omega
  have w2 : IntKind.u64.wrap (T : Int) = T := by rw [wrap_u64]; omega
  have w3 : IntKind.u64.wrap (S : Int) = S := by rw [wrap_u64]; omega
  have w4 : IntKind.u64.wrap ((T : Int) * 512) = (T : Int) * 512 := by rw [wrap_u64]; omega
  have w5 : IntKind.u64.wrap ((S : Int) * 65536) = (S : Int) * 65536 := by rw [wrap_u64]; omega
  have HL := Lib.hid hlw; clear hlw hb
  cases mark
  · have o1 := or_int (a := (K : Int)) (b := (T : Int) * 512) 9 T (by omega) (by simp; omega) (by omega) (by omega) (by omega)
    have o2 := or_int (a := (K : Int) + (T : Int) * 512) (b := (S : Int) * 65536) 16 S (by omega) (by simp; omega) (by omega) (by omega) (by omega)
    have o0 := or_int (a := (K : Int)) (b := 0) 9 0 (by omega) (by simp; omega) (by omega) (by omega) (by omega)
    rw [Int.add_zero] at o0
    go_enter Tryz.func118, Tryz.ntmps118
    go_wp2
    refine bodyPost_ret (v := .agg #[.int .u64 (lw : Int), .int .u64 K, .int .u64 T, .int .u64 S, .int .u64 0]) (by simp [results, Tryz.results118, go_sem, HL.out, lowN, mk1]) rfl ⟨rfl, ?_⟩
    (repeat (first | refine Below.setCell ?_ (by first | exact Nat.le_refl _ | (simp <;> omega)) _ | refine Below.alloc ?_ (by first | exact B.size | (have := B.size; simp <;> omega)) _)); exact B
  · have o0 := or_int (a := (K : Int)) (b := 256) 8 1 (by omega) (by simp; omega) (by omega) (by omega) (by omega)
    have o1 := or_int (a := (K : Int) + 256) (b := (T : Int) * 512) 9 T (by omega) (by simp; omega) (by omega) (by omega) (by omega)
    have o2 := or_int (a := (K : Int) + 256 + (T : Int) * 512) (b := (S : Int) * 65536) 16 S (by omega) (by simp; omega) (by omega) (by omega) (by omega)
    go_enter Tryz.func118, Tryz.ntmps118
    go_wp2
    refine bodyPost_ret (v := .agg #[.int .u64 (lw : Int), .int .u64 K, .int .u64 T, .int .u64 S, .int .u64 1]) (by simp [results, Tryz.results118, go_sem, HL.out, lowN, mk1]) rfl ⟨rfl, ?_⟩
    (repeat (first | refine Below.setCell ?_ (by first | exact Nat.le_refl _ | (simp <;> omega)) _ | refine Below.alloc ?_ (by first | exact B.size | (have := B.size; simp <;> omega)) _)); exact B
theorem form_low (a b c d e : Int) (W : World) : (Instr.field 201 (.agg #[.int .u64 a, .int .u64 b, .int .u64 c, .int .u64 d, .int .u64 e]) 0).run Tryz.prog W = .ok (.int .u64 a) W := by kernel_rfl
set_option maxRecDepth 100000 in
theorem HWord_any (b : Hb) (v : UInt64) (r : Int) (hv : v = word b) (hr : r = hErr b) (w : World) :
    Calls Tryz.prog 60 #[.agg #[.int .i64 b.at_, .int .i64 b.size, .int .i64 b.kind, .int .i64 b.ty, .bool b.mark, .int .u64 b.next.toNat]] w fun e w' => e = .returned (.tuple #[.int .u64 v.toNat, .int .i64 r]) ∧ Below w.heap.size w w' := by
  have B : Below w.heap.size w w := Below.refl _ _
  have CT := Lib.hid (fun w => HCheck_any b r hr w)
  by_cases hb : BkOk b
  · rw [hErr_ok hb] at hr
    have hn := word_nat hb
    rw [← hv] at hn
    have hlt := lowN_lt hb
    obtain ⟨x, hx⟩ : ∃ x : UInt64, x = UInt64.ofNat (lowN b) := ⟨_, rfl⟩
    have hxn : x.toNat = lowN b := by rw [hx, UInt64.toNat_ofNat', Nat.mod_eq_of_lt (by omega)]
    have OT := Lib.hid (fun w => of_any b hb x.toNat hxn w)
    have ST := Lib.hid (fun w => sealed_any x v.toNat (by omega) (by rw [hn, wordN, ← hx, hxn]) w)
    subst hr
    have hf := fun W => form_low (x.toNat : Int) b.kind b.ty b.size (mk1 b.mark : Nat) W
    clear hv hb hn hlt hx hxn
    go_enter Tryz.func60, Tryz.ntmps60
    go_upto_region 1 with (fail)
    refine wp_gen (fun Wv => Bx Wv (w.heap.size) (82) (#[.int .i64 b.at_, .int .i64 b.size, .int .i64 b.kind, .int .i64 b.ty, .bool b.mark, .int .u64 b.next.toNat]) ∧ Below w.heap.size w Wv) ⟨((Bx.at_ (by simp))), ((Below.refl _ w).alloc (by simp <;> omega) _)⟩ ?_
    rintro wa1 ⟨g1, b⟩
    replace B := B.trans (b.mono B.size); clear b
    have c_g1 := g1.cell; have f_g1 := g1.free; have a_g1 := fun o => (g1.alloc o).cell; have d_g1 := fun o o2 => ((g1.alloc o).alloc o2).cell; have e_g1 := fun o => (g1.alloc o).free
    go_wp2_with fail
    refine (CT.out _).mono ?_
    rintro e wa2 ⟨rfl, b⟩
    try clear c_g1 f_g1 a_g1 d_g1 e_g1
    replace g1 := g1.below b; have c_g1 := g1.cell; have f_g1 := g1.free; have a_g1 := fun o => (g1.alloc o).cell; have d_g1 := fun o o2 => ((g1.alloc o).alloc o2).cell; have e_g1 := fun o => (g1.alloc o).free; replace B := B.trans (b.mono B.size); clear b
    go_wp2_with fail
    refine (OT.out _).mono ?_
    rintro e wa3 ⟨rfl, b⟩
    try clear c_g1 f_g1 a_g1 d_g1 e_g1
    replace g1 := g1.below b; have c_g1 := g1.cell; have f_g1 := g1.free; have a_g1 := fun o => (g1.alloc o).cell; have d_g1 := fun o o2 => ((g1.alloc o).alloc o2).cell; have e_g1 := fun o => (g1.alloc o).free; replace B := B.trans (b.mono B.size); clear b
    go_wp2_with fail
    refine (ST.out _).mono ?_
    rintro e wa4 ⟨rfl, b⟩
    try clear c_g1 f_g1 a_g1 d_g1 e_g1
    replace g1 := g1.below b; have c_g1 := g1.cell; have f_g1 := g1.free; have a_g1 := fun o => (g1.alloc o).cell; have d_g1 := fun o o2 => ((g1.alloc o).alloc o2).cell; have e_g1 := fun o => (g1.alloc o).free; replace B := B.trans (b.mono B.size); clear b
    go_wp2
    go_ret2
    exact ⟨rfl, B⟩
  · rw [hErr_no hb] at hr
    have hv0 : v = 0 := by rw [hv, word, if_neg hb]
    subst hr; subst hv0
    clear hv hb
    go_enter Tryz.func60, Tryz.ntmps60
    go_upto_region 1 with (fail)
    refine wp_gen (fun Wv => Bx Wv (w.heap.size) (82) (#[.int .i64 b.at_, .int .i64 b.size, .int .i64 b.kind, .int .i64 b.ty, .bool b.mark, .int .u64 b.next.toNat]) ∧ Below w.heap.size w Wv) ⟨((Bx.at_ (by simp))), ((Below.refl _ w).alloc (by simp <;> omega) _)⟩ ?_
    rintro wa1 ⟨g1, b⟩
    replace B := B.trans (b.mono B.size); clear b
    have c_g1 := g1.cell; have f_g1 := g1.free; have a_g1 := fun o => (g1.alloc o).cell; have d_g1 := fun o o2 => ((g1.alloc o).alloc o2).cell; have e_g1 := fun o => (g1.alloc o).free
    go_wp2_with fail
    refine (CT.out _).mono ?_
    rintro e wa2 ⟨rfl, b⟩
    try clear c_g1 f_g1 a_g1 d_g1 e_g1
    replace g1 := g1.below b; have c_g1 := g1.cell; have f_g1 := g1.free; have a_g1 := fun o => (g1.alloc o).cell; have d_g1 := fun o o2 => ((g1.alloc o).alloc o2).cell; have e_g1 := fun o => (g1.alloc o).free; replace B := B.trans (b.mono B.size); clear b
    go_wp2
    go_ret2
    exact ⟨rfl, B⟩
set_option maxRecDepth 100000 in
set_option maxHeartbeats 1000000 in
theorem HSplit_any (x : UInt64) (b : Hb) (r : Int) (hb : b = split x) (hr : r = splE x) (w : World) :
    Calls Tryz.prog 155 #[.int .u64 x.toNat] w fun e w' => e = .returned (.tuple #[.agg #[.int .i64 b.at_, .int .i64 b.size, .int .i64 b.kind, .int .i64 b.ty, .bool b.mark, .int .u64 b.next.toNat], .int .i64 r]) ∧ Below w.heap.size w w' := by
  have B : Below w.heap.size w w := Below.refl _ _
  have hxl := toNat_lt x
  obtain ⟨t, ht⟩ : ∃ t, t = told x := ⟨_, rfl⟩
  obtain ⟨v, hv⟩ : ∃ v, v = word t := ⟨_, rfl⟩
  obtain ⟨e, he⟩ : ∃ e, e = hErr t := ⟨_, rfl⟩
  have WT := Lib.hid (fun w => HWord_any t v e hv he w)
  have a1 := and_int (a := (x.toNat : Int)) 8 (by omega) (by omega) 255 (by decide) (by omega)
  have a2 := and_int (a := (x.toNat : Int) / 256) 1 (by omega) (by omega) 1 (by decide) (by omega)
  have a3 := and_int (a := (x.toNat : Int) / 512) 7 (by omega) (by omega) 127 (by decide) (by omega)
  have a4 := and_int (a := (x.toNat : Int) / 65536) 16 (by omega) (by omega) 65535 (by decide) (by omega)
  rw [show ((2 ^ 8 : Nat) : Int) = 256 from rfl] at a1
  rw [show ((2 ^ 1 : Nat) : Int) = 2 from rfl] at a2
  rw [show ((2 ^ 7 : Nat) : Int) = 128 from rfl] at a3
  rw [show ((2 ^ 16 : Nat) : Int) = 65536 from rfl] at a4
  have i1 : IntKind.i64.wrap ((x.toNat : Int) % 256) = (x.toNat : Int) % 256 := IntWalk.i64_in _ (by omega)
  have i3 : IntKind.i64.wrap ((x.toNat : Int) / 512 % 128) = (x.toNat : Int) / 512 % 128 := IntWalk.i64_in _ (by omega)
  have i4 : IntKind.i64.wrap ((x.toNat : Int) / 65536 % 65536) = (x.toNat : Int) / 65536 % 65536 := IntWalk.i64_in _ (by omega)
  have t1 : (x.toNat : Int) % 256 = t.kind := by rw [ht]; rfl
  have t3 : (x.toNat : Int) / 512 % 128 = t.ty := by rw [ht]; rfl
  have t4 : (x.toNat : Int) / 65536 % 65536 = t.size := by rw [ht]; rfl
  have t2 : ((x.toNat : Int) / 256 % 2 == 1) = t.mark := by
    rw [ht, Bool.eq_iff_iff, beq_iff_eq]
    show _ ↔ decide (x.toNat / 256 % 2 = 1) = true
    rw [decide_eq_true_iff]; omega
  have t5 : t.at_ = 0 := by rw [ht]; rfl
  have t6 : t.next = 0 := by rw [ht]; rfl
  have hcase : (e = 0 ∧ v = x ∧ b = t ∧ r = 0) ∨ (e ≠ 0 ∧ b = .none ∧ r = 50) ∨ (e = 0 ∧ v ≠ x ∧ b = .none ∧ r = 50) := by
    by_cases hk : BkOk t
    · by_cases hw : v = x
      · have hd : HdOk x := ⟨by rw [← ht]; exact hk, by rw [← ht, ← hv]; exact hw⟩
        exact .inl ⟨by rw [he, hErr_ok hk], hw, by rw [hb, split_told hd, ht], by rw [hr, splE, if_pos hd]⟩
      · have hd : ¬ HdOk x := fun h => hw (by rw [hv, ht]; exact h.2)
        exact .inr (.inr ⟨by rw [he, hErr_ok hk], hw, by rw [hb, split, if_neg hd], by rw [hr, splE, if_neg hd]⟩)
    · have hd : ¬ HdOk x := fun h => hk (by rw [ht]; exact h.1)
      exact .inr (.inl ⟨by rw [he, hErr_no hk]; decide, by rw [hb, split, if_neg hd], by rw [hr, splE, if_neg hd]⟩)
  obtain ⟨at_, size, kind, ty, mark, next⟩ := t
  dsimp only at t1 t2 t3 t4 t5 t6
  subst t5; subst t6
  have q1 := a1.trans t1; have q3 := a3.trans t3; have q4 := a4.trans t4
  have j1 : IntKind.i64.wrap kind = kind := by rw [← t1]; exact i1
  have j3 : IntKind.i64.wrap ty = ty := by rw [← t3]; exact i3
  have j4 : IntKind.i64.wrap size = size := by rw [← t4]; exact i4
  have WT' : Hid (∀ w, Calls Tryz.prog 60 #[.agg #[.int .i64 0, .int .i64 size, .int .i64 kind, .int .i64 ty, .bool mark, .int .u64 0]] w fun e_1 w' => e_1 = .returned (.tuple #[.int .u64 v.toNat, .int .i64 e]) ∧ Below w.heap.size w w') := WT
  clear ht hv he hb hr WT a1 a3 a4 i1 i3 i4 t1 t3 t4
  go_enter Tryz.func155, Tryz.ntmps155
  go_upto_region 2 with (fail)
  refine wp_gen (fun Wv => Bx Wv (w.heap.size) (82) (#[.int .i64 0, .int .i64 0, .int .i64 0, .int .i64 0, .bool false, .int .u64 0]) ∧ Bx Wv (w.heap.size + 1) (82) (#[.int .i64 0, .int .i64 size, .int .i64 kind, .int .i64 ty, .bool mark, .int .u64 0]) ∧ Below w.heap.size w Wv) ⟨(((Bx.at_ (by simp)).alloc _)), ((Bx.at_ (by simp))), (((Below.refl _ w).alloc (by simp <;> omega) _).alloc (by simp <;> omega) _)⟩ ?_
  rintro wa1 ⟨g1, g2, b⟩
  replace B := B.trans (b.mono B.size); clear b
  have c_g1 := g1.cell; have f_g1 := g1.free; have a_g1 := fun o => (g1.alloc o).cell; have d_g1 := fun o o2 => ((g1.alloc o).alloc o2).cell; have e_g1 := fun o => (g1.alloc o).free
  have c_g2 := g2.cell; have f_g2 := g2.free; have a_g2 := fun o => (g2.alloc o).cell; have d_g2 := fun o o2 => ((g2.alloc o).alloc o2).cell; have e_g2 := fun o => (g2.alloc o).free
  go_wp2_with fail
  refine (WT'.out _).mono ?_
  rintro e wa2 ⟨rfl, b⟩
  try clear c_g1 f_g1 a_g1 d_g1 e_g1
  replace g1 := g1.below b; have c_g1 := g1.cell; have f_g1 := g1.free; have a_g1 := fun o => (g1.alloc o).cell; have d_g1 := fun o o2 => ((g1.alloc o).alloc o2).cell; have e_g1 := fun o => (g1.alloc o).free; try clear c_g2 f_g2 a_g2 d_g2 e_g2
  replace g2 := g2.below b; have c_g2 := g2.cell; have f_g2 := g2.free; have a_g2 := fun o => (g2.alloc o).cell; have d_g2 := fun o o2 => ((g2.alloc o).alloc o2).cell; have e_g2 := fun o => (g2.alloc o).free; replace B := B.trans (b.mono B.size); clear b
  rcases hcase with ⟨rfl, rfl, rfl, rfl⟩ | ⟨h1, rfl, rfl⟩ | ⟨rfl, h1, rfl, rfl⟩
  · go_wp2
    refine bodyPost_ret (v := .tuple #[.agg #[.int .i64 0, .int .i64 size, .int .i64 kind, .int .i64 ty, .bool mark, .int .u64 0], .int .i64 0]) (by simp [results, Tryz.results155, go_sem, c_g1, f_g1, a_g1, e_g1, c_g2, f_g2, a_g2, e_g2]) rfl ?_
    refine ⟨rfl, ?_⟩
    (repeat (first | refine Below.setCell ?_ (by first | exact Nat.le_refl _ | (simp <;> omega)) _ | refine Below.alloc ?_ (by first | exact B.size | (have := B.size; simp <;> omega)) _)); exact B
  · have n1 : (e != 0) = true := by rw [bne_iff_ne]; exact h1
    go_wp2
    refine bodyPost_ret (v := .tuple #[.agg #[.int .i64 0, .int .i64 0, .int .i64 0, .int .i64 0, .bool false, .int .u64 0], .int .i64 50]) (by simp [results, Tryz.results155, go_sem, c_g1, f_g1, a_g1, e_g1, c_g2, f_g2, a_g2, e_g2]) rfl ?_
    refine ⟨rfl, ?_⟩
    (repeat (first | refine Below.setCell ?_ (by first | exact Nat.le_refl _ | (simp <;> omega)) _ | refine Below.alloc ?_ (by first | exact B.size | (have := B.size; simp <;> omega)) _)); exact B
  · have n1 : ((v.toNat : Int) != (x.toNat : Int)) = true := by rw [bne_iff_ne]; intro e; exact h1 (UInt64.toNat.inj (by omega))
    go_wp2
    refine bodyPost_ret (v := .tuple #[.agg #[.int .i64 0, .int .i64 0, .int .i64 0, .int .i64 0, .bool false, .int .u64 0], .int .i64 50]) (by simp [results, Tryz.results155, go_sem, c_g1, f_g1, a_g1, e_g1, c_g2, f_g2, a_g2, e_g2]) rfl ?_
    refine ⟨rfl, ?_⟩
    (repeat (first | refine Below.setCell ?_ (by first | exact Nat.le_refl _ | (simp <;> omega)) _ | refine Below.alloc ?_ (by first | exact B.size | (have := B.size; simp <;> omega)) _)); exact B
end Go.Proofs.YtmbokdnndlnjkaaGreat
