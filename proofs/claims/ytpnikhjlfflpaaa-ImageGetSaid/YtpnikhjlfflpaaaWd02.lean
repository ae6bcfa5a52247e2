/- The walk of the law ImageGet. -/
import Derived.Test.YtpnikhjlfflpaaaWb02
set_option linter.unusedVariables false
set_option linter.unusedSimpArgs false
namespace Go.Proofs.Ytpnikhjlfflpaaa
open Go.RowKit L02

theorem get_all {l : List UInt64} (hs : SizeOk l.length) : rng l 0 l.length = 0 ∧ L02.get l 0 l.length = l := by
  have h : rng l 0 l.length = 0 := rng_ok hs (by unfold InR; omega)
  exact ⟨h, by simp [L02.get, h]⟩
theorem get_parts {l : List UInt64} {at_ n k : Int} (hs : SizeOk l.length) (a1 : 0 ≤ at_) (a2 : 0 ≤ n) (a3 : 0 ≤ k) (a4 : at_ + n + k ≤ l.length) :
    rng l at_ (n + k) = 0 ∧ rng l at_ n = 0 ∧ rng l (at_ + n) k = 0 ∧ L02.get l at_ n ++ L02.get l (at_ + n) k = L02.get l at_ (n + k) := by
  have h1 : rng l at_ (n + k) = 0 := rng_ok hs (by unfold InR; omega)
  have h2 : rng l at_ n = 0 := rng_ok hs (by unfold InR; omega)
  have h3 : rng l (at_ + n) k = 0 := rng_ok hs (by unfold InR; omega)
  refine ⟨h1, h2, h3, ?_⟩
  simp only [L02.get, h1, h2, h3, if_true]
  obtain ⟨x, rfl⟩ := Int.eq_ofNat_of_zero_le a1
  obtain ⟨y, rfl⟩ := Int.eq_ofNat_of_zero_le a2
  obtain ⟨z, rfl⟩ := Int.eq_ofNat_of_zero_le a3
  have e1 : (((x : Int) + (y : Int))).toNat = x + y := by omega
  have e2 : (((y : Int) + (z : Int))).toNat = y + z := by omega
  simp only [Int.toNat_natCast, Int.ofNat_eq_natCast, e1, e2]
  rw [List.take_add, List.drop_drop]
theorem get_len {l : List UInt64} {at_ n : Int} : (L02.get l at_ n).length ≤ l.length := by
  unfold L02.get; split
  · rw [List.length_take, List.length_drop]; omega
  · simp

set_option maxHeartbeats 2000000 in
theorem ImageGet_walk (v0 : Value) (l : List UInt64) (at_ n k : Int) (w : World) (h00 : Words w v0 l)
    (h1 : -9223372036854775808 ≤ at_ ∧ at_ ≤ 9223372036854775807) (h2 : -9223372036854775808 ≤ n ∧ n ≤ 9223372036854775807) (h3 : -9223372036854775808 ≤ k ∧ k ≤ 9223372036854775807) :
    Calls Try.prog 9 #[v0, .int .i64 at_, .int .i64 n, .int .i64 k] w (True_ w) := by
  have B : Below w.heap.size w w := Below.refl _ _
  have h0 := h00
  have l1 := Rd.len h0 Try.underlying22
  clear h1 h2 h3
  by_cases hs : SizeOk l.length
  · have hsz := hs.2.1
    by_cases hr : 0 ≤ at_ ∧ 0 ≤ n ∧ 0 ≤ k ∧ at_ ≤ l.length ∧ n ≤ l.length - at_ ∧ k ≤ l.length - at_ - n
    · obtain ⟨a1, a2, a3, a4, a5, a6⟩ := hr
      obtain ⟨p1, p2, p3, p4⟩ := get_parts hs a1 a2 a3 (by omega)
      obtain ⟨q1, q2⟩ := get_all hs
      have g1 := get_len (l := l) (at_ := at_) (n := n)
      have g2 := get_len (l := l) (at_ := at_ + n) (n := k)
      have HC := Lib.hid hs; have HP := Lib.hid (And.intro p1 (And.intro p2 (And.intro p3 p4))); have HQ := Lib.hid (And.intro q1 q2)
      clear hs p1 p2 p3 p4 q1 q2
      go_enter Try.func9, Try.ntmps9
      go_wp2_with fail
      refine (CheckR_any _ _ _ h0).mono ?_
      rw [chk_ok HC.out]
      rintro e w' ⟨rfl, rfl⟩
      go_wp2_with fail
      refine (Get_any _ _ _ _ _ h0).mono ?_
      rw [HP.out.1]
      rintro e w1 ⟨x1, rfl, o1, b⟩
      replace h0 := h0.below b; replace B := B.trans (b.mono B.size); clear b
      go_wp2_with fail
      refine (Get_any _ _ _ _ _ h0).mono ?_
      rw [HP.out.2.1]
      rintro e w2 ⟨x2, rfl, o2, b⟩
      have n12 := own_ne o1 o2 (Nat.le_refl _)
      replace o2 := own_mono o2 B.size
      replace h0 := h0.below b; replace o1 := o1.below b; replace B := B.trans (b.mono B.size); clear b
      go_wp2_with fail
      refine (Get_any _ _ _ _ _ h0).mono ?_
      rw [HP.out.2.2.1]
      rintro e w3 ⟨x3, rfl, o3, b⟩
      have r3 := o3.rd
      replace h0 := h0.below b; replace o1 := o1.below b; replace o2 := own_below o2 b; replace B := B.trans (b.mono B.size); clear b o3
      go_wp2_with fail
      refine (Get_any _ _ _ _ _ h0).mono ?_
      rw [HQ.out.1]
      rintro e w4 ⟨x4, rfl, o4, b⟩
      have n24 := own_ne o2 o4 (Nat.le_refl _)
      replace h0 := h0.below b; replace o1 := o1.below b; replace o2 := own_below o2 b; replace r3 := r3.below b; replace B := B.trans (b.mono B.size); clear b
      go_wp2_with (at_builtin; refine wpList_append (by rfl) rfl rfl rfl Try.underlying22 info_u64 rfl (by omega) o2 r3 (one_u64s _) (by omega) (by omega) B (Nat.le_refl _) ?_; intro x5 w5 o5 B5 g5)
      replace o1 := o1.kept g5 n12.2
      replace o4 := o4.kept g5 n24.1
      have o6 : OwnW w5 w.heap.size 51 x5 (L02.get l at_ (n + k)) := OwnW.of o5 (by rw [← HP.out.2.2.2, List.map_append])
      clear h0
      have h0 := h00.below B5
      have r6 := o6.rd; have r1 := o1.rd; have r4 := o4.rd
      clear o1 o2 r3 o4 o5 o6 g5 B
      have B := B5; clear B5
      go_wp2_with fail
      refine (Same_any _ _ _ _ _ r6 r1).mono ?_
      rw [same_refl]
      rintro e w' ⟨rfl, q⟩
      have b := q.below; replace r4 := r4.below b; replace h0 := h0.below b; replace B := B.trans (b.mono B.size); clear q b
      go_wp2_with fail
      refine (Same_any _ _ _ _ _ r4 h0).mono ?_
      rw [HQ.out.2, same_refl]
      rintro e w' ⟨rfl, q⟩
      have b := q.below; replace B := B.trans (b.mono B.size); clear q b
      go_wp2_with fail
      refine (alive_any _).mono ?_
      rintro e w' ⟨rfl, b⟩
      replace B := B.trans (b.mono B.size)
      go_wp2
      go_ret
      exact ⟨rfl, B⟩
    · have HC := Lib.hid hs; have HR := Lib.hid hr
      clear hs hr
      go_enter Try.func9, Try.ntmps9
      go_wp2_with fail
      refine (CheckR_any _ _ _ h0).mono ?_
      rw [chk_ok HC.out]
      rintro e w' ⟨rfl, rfl⟩
      go_wp2_with (go_at_call 26; refine (alive_any _).mono ?_; rintro e w' ⟨rfl, b⟩)
      all_goals
        first
        | (exfalso; have := HR.out; omega)
        | (go_ret
           exact ⟨rfl, ‹_›⟩)
  · have HC := Lib.hid hs
    clear hs
    go_enter Try.func9, Try.ntmps9
    go_wp2_with fail
    refine (CheckR_any _ _ _ h0).mono ?_
    rw [chk_no HC.out]
    rintro e w' ⟨rfl, rfl⟩
    go_wp2_with fail
    refine (alive_any _).mono ?_
    rintro e w' ⟨rfl, b⟩
    go_wp2
    go_ret
    exact ⟨rfl, b⟩
end Go.Proofs.Ytpnikhjlfflpaaa
