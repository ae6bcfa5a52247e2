/- The walk of the law ImagePut. -/
import Derived.Test.YtpnikhjlfflpaaaWb02
import Derived.Test.YtpnikhjlfflpaaaL02c
set_option linter.unusedVariables false
set_option linter.unusedSimpArgs false
namespace Go.Proofs.Ytpnikhjlfflpaaa
open Go.RowKit L02

set_option maxHeartbeats 2000000 in
theorem ImagePut_walk (v0 : Value) (m : List UInt64) (at_ : Int) (v2 : Value) (l : List UInt64) (w : World) (h00 : Words w v0 m)
    (h1 : -9223372036854775808 ≤ at_ ∧ at_ ≤ 9223372036854775807) (h02 : Words w v2 l) :
    Calls Try.prog 8 #[v0, .int .i64 at_, v2] w (True_ w) := by
  have B : Below w.heap.size w w := Below.refl _ _
  have h0 := h00; have h2 := h02
  have l0 := Rd.len h0 Try.underlying22; have l2 := Rd.len h2 Try.underlying22
  have H0 := Lib.hid h00; have H2 := Lib.hid h02
  clear h1 h00 h02
  by_cases hs : SizeOk m.length
  · have hsz := hs.2.1
    by_cases hr : 0 ≤ at_ ∧ at_ ≤ m.length ∧ l.length ≤ 100 ∧ (l.length : Int) ≤ m.length - at_
    · obtain ⟨a1, a2, a3, a4⟩ := hr
      obtain ⟨a, rfl⟩ := Int.eq_ofNat_of_zero_le a1
      have hal : a + l.length ≤ m.length := by omega
      obtain ⟨p1, p2, p3, p4, p5, p6⟩ := put_diffs (a := a) (l := l) hs hal
      have hll := laid_len hal
      obtain ⟨M, hM⟩ : ∃ M, M = m.length := ⟨_, rfl⟩
      obtain ⟨L, hL⟩ : ∃ L, L = l.length := ⟨_, rfl⟩
      rw [← hM] at l0 hsz a2 a4 hal hll
      rw [← hL] at l2 a3 a4 hal p1 p5 p6 p4
      have HC := Lib.hid hs; have HP1 := Lib.hid p1; have HP2 := Lib.hid p2; have HP3 := Lib.hid p3; have HP4 := Lib.hid p4; have HP5 := Lib.hid p5; have HP6 := Lib.hid p6; have HLL := Lib.hid hll; have HM := Lib.hid hM; have HL := Lib.hid hL
      clear hs p1 p2 p3 p4 p5 p6 hM hL hll
      go_enter Try.func8, Try.ntmps8
      go_wp2_with fail
      refine (CheckR_any _ _ _ h0).mono ?_
      rw [chk_ok HC.out]
      rintro e w' ⟨rfl, rfl⟩
      go_wp2_with fail
      refine (Put_any _ _ _ _ _ _ h0 h2).mono ?_
      rw [← HL.out, HP1.out, HP2.out]
      rintro e w1 ⟨x1, rfl, o, b⟩
      have r1 := o.rd; replace h0 := h0.below b; replace h2 := h2.below b; replace B := B.trans (b.mono B.size); clear o b
      go_wp2_with fail
      refine (Get_any _ _ _ _ _ r1).mono ?_
      rw [HP5.out, HP6.out]
      rintro e w2 ⟨x2, rfl, o, b⟩
      have r2 := o.rd; replace h0 := h0.below b; replace h2 := h2.below b; replace r1 := r1.below b; replace B := B.trans (b.mono B.size); clear o b
      go_wp2_with fail
      refine (Diff_any _ _ _ _ _ h0 r1).mono ?_
      rw [HP3.out, HP4.out]
      rintro e w3 ⟨x3, rfl, o, b⟩
      have r3 := o.rd; replace h0 := h0.below b; replace h2 := h2.below b; replace r1 := r1.below b; replace r2 := r2.below b; replace B := B.trans (b.mono B.size); clear o b
      have l3 := Rd.len r3 Try.underlying29
      have l1 := Rd.len r1 Try.underlying22
      rw [HLL.out] at l1
      go_wp2_with fail
      refine (Same_any _ _ _ _ _ r2 h2).mono ?_
      rw [same_refl]
      rintro e w4 ⟨rfl, q⟩
      have b := q.below; replace h0 := h0.below b; replace h2 := h2.below b; replace r3 := r3.below b; replace B := B.trans (b.mono B.size); clear q b r1 r2
      obtain ⟨D, hD⟩ : ∃ D, D = (putD m a l L).length := ⟨_, rfl⟩
      rw [← hD] at l3
      have hDL := putD_len m l a L
      rw [← hD] at hDL
      have HD := Lib.hid hD; clear hD
      have HB := Lib.hid B; have HR3 := Lib.hid r3; clear B r3
      have HH0 := Lib.hid h0; have HH2 := Lib.hid h2; clear h0 h2
      go_wp2
      go_loopw [13, 14] (fun n i wr => ∃ k : Nat, k ≤ L ∧ i = .int .i64 k ∧ n = .int .i64 ((putD m a l k).length : Nat) ∧ ∃ q : Nat, wr = w4.drewN q) (fun _ i _ => L - (intOf i).toNat)
      case atStart => exact ⟨0, Nat.zero_le _, rfl, rfl, 0, rfl⟩
      case round =>
        obtain ⟨k, hk, rfl, rfl, q, rfl⟩ := hrel
        by_cases hlt : k < L
        · obtain ⟨ad, x, ia, ca', hx⟩ := HH0.out.atI Try.underlying22 one_u64 (k := (a : Int) + (k : Int)) (by omega) (by have := HM.out; omega)
          obtain ⟨bd, y, ib, cb', hy⟩ := HH2.out.at_ Try.underlying22 one_u64 (k := k) (by have := HL.out; omega)
          have hx' : Hid (m[a + k]? = some x) := by
            have := hx.out
            rwa [show ((a : Int) + (k : Int)).toNat = a + k by omega] at this
          clear hx
          have hN := putD_len m l a k
          by_cases hxy : x = y
          · have hS : putD m a l (k + 1) = putD m a l k := by rw [putD_succ, hx'.out, hy.out, hxy]; simp
            have HS := Lib.hid hS; clear hS
            have t1 : ((x.toNat : Int) == y.toNat) = true := by rw [beq_iff_eq, hxy]
            clear hxy
            go_wp2
            go_quiet (fail)
            go_wp2
            go_roundw
            case rel => exact ⟨k + 1, by omega, by go_num, by rw [HS.out], _, rfl⟩
            case measure => simp [intOf]; omega
          · have hne : m[a + k]? ≠ l[k]? := by rw [hx'.out, hy.out]; simpa using hxy
            have hS : (putD m a l (k + 1)).length = (putD m a l k).length + 1 := by rw [putD_succ, if_pos hne]; simp
            have hlt' := putD_lt (n := L) hlt hne
            have hat := putD_at (n := L) hlt hne
            obtain ⟨N, hNN⟩ : ∃ N, N = (putD m a l k).length := ⟨_, rfl⟩
            rw [← hNN] at hS hlt' hat hN
            obtain ⟨cd, z, ic, cc', hz⟩ := HR3.out.at_ Try.underlying29 one_int (k := N) hlt'
            obtain rfl : z = (a : Int) + (k : Int) := by have := hz.out; rw [hat] at this; exact (Option.some.inj this).symm
            rw [← HD.out] at hlt'
            rw [← hNN]
            have t1 : ((x.toNat : Int) == y.toNat) = false := by rw [beq_eq_false_iff_ne]; intro h; exact hxy (UInt64.toNat_inj.1 (by omega))
            have HS := Lib.hid hS
            clear hS hat hxy hne hz hNN
            go_wp2
            go_quiet (fail)
            go_wp2
            go_roundw
            case rel => exact ⟨k + 1, by omega, by go_num, by rw [HS.out]; go_num, _, rfl⟩
            case measure => simp [intOf]; omega
        · obtain rfl : k = L := by omega
          have hD := HD.out
          rw [← hD]
          clear hD
          go_wp2_with fail
          refine (alive_any _).mono ?_
          rintro e w' ⟨rfl, b⟩
          replace B := (below_drewN HB.out _).trans (b.mono (below_drewN HB.out _).size)
          go_wp2
          go_ret
          exact ⟨rfl, B⟩
    · have HC := Lib.hid hs; have HR := Lib.hid hr
      clear hs hr
      go_enter Try.func8, Try.ntmps8
      go_wp2_with fail
      refine (CheckR_any _ _ _ h0).mono ?_
      rw [chk_ok HC.out]
      rintro e w' ⟨rfl, rfl⟩
      go_wp2_with (go_at_call 26; refine (alive_any _).mono ?_; rintro e w' ⟨rfl, b⟩)
      all_goals
        first
        | (exfalso; have := HR.out; omega)
        | (go_ret
           exact ⟨rfl, ‹_›⟩)
  · have HC := Lib.hid hs
    clear hs
    go_enter Try.func8, Try.ntmps8
    go_wp2_with fail
    refine (CheckR_any _ _ _ h0).mono ?_
    rw [chk_no HC.out]
    rintro e w' ⟨rfl, rfl⟩
    go_wp2_with fail
    refine (alive_any _).mono ?_
    rintro e w' ⟨rfl, b⟩
    go_wp2
    go_ret
    exact ⟨rfl, b⟩
end Go.Proofs.Ytpnikhjlfflpaaa
