/- The walk of the law SuperByte. -/
import Derived.Test.YtkaifjihinlbgaaWd06
set_option linter.unusedVariables false
set_option linter.unusedSimpArgs false
namespace Go.Proofs.Ytkaifjihinlbgaa
open Go.RowKit L02 L05 L06

theorem shl8 (c : UInt8) (b : Nat) (d : UInt64) (hd : d.toNat = c.toNat * 256 ^ b) : IntKind.u64.wrap ((c.toNat : Int) * 2 ^ (8 * b)) = (d.toNat : Int) := by
  have hdl := toNat_lt d
  have e4 : ((c.toNat : Int) * 2 ^ (8 * b)) = ((d.toNat : Nat) : Int) := by
    rw [hd, two_pow8]; push_cast; rfl
  rw [e4, wrap_u64]; omega

set_option maxHeartbeats 4000000 in
theorem SuperByte_walk (a b : Int) (at_ bt : Int) (c : UInt8) (w : World) (ha : -9223372036854775808 ≤ a ∧ a ≤ 9223372036854775807) (hb : -9223372036854775808 ≤ b ∧ b ≤ 9223372036854775807)
    (hat : -9223372036854775808 ≤ at_ ∧ at_ ≤ 9223372036854775807) (hbt : -9223372036854775808 ≤ bt ∧ bt ≤ 9223372036854775807) :
    Calls Try.prog 7 #[.agg #[.int .i64 a, .int .i64 b], .int .i64 at_, .int .i64 bt, .int .u8 c.toNat] w (True_ w) := by
  clear ha hb hat hbt
  by_cases h1 : SupOk a b
  · by_cases hr : 0 ≤ at_ ∧ at_ ≤ 7 ∧ 0 ≤ bt ∧ bt ≤ 7
    · obtain ⟨p1, p2, p3, p4⟩ := hr
      have he1 : supErr a b = 0 := if_pos h1
      have hw1 : write a b = wordsOf a b := if_pos h1
      have hc := c.toNat_lt
      obtain ⟨B, rfl⟩ := Int.eq_ofNat_of_zero_le p3
      obtain ⟨A, rfl⟩ := Int.eq_ofNat_of_zero_le p1
      obtain ⟨d, hd⟩ : ∃ d : UInt64, d.toNat = c.toNat * 256 ^ B := by
        have hlt : c.toNat * 256 ^ B < 18446744073709551616 := by
          have h1 : 256 ^ B ≤ 256 ^ 7 := Nat.pow_le_pow_right (by omega) (by omega)
          have h2 : c.toNat * 256 ^ B ≤ 255 * 256 ^ 7 := Nat.mul_le_mul (by omega) h1
          have h3 : 255 * 256 ^ 7 < 18446744073709551616 := by decide
          omega
        exact ⟨UInt64.ofNat (c.toNat * 256 ^ B), by rw [UInt64.toNat_ofNat', Nat.mod_eq_of_lt hlt]⟩
      obtain ⟨x, hx⟩ : ∃ x, (wordsOf a b)[A]? = some x := ⟨(wordsOf a b)[A]'(by rw [len_words]; omega), List.getElem?_eq_getElem _⟩
      have hres : rdErr ((wordsOf a b).set A (x ^^^ d)) = if c = 0 then 0 else 50 := by
        by_cases h0 : c = 0
        · have hd0 : d = 0 := by apply UInt64.toNat_inj.1; rw [hd, h0]; simp
          rw [if_pos h0, hd0]
          have hset : (wordsOf a b).set A (x ^^^ 0) = wordsOf a b := by
            rw [UInt64.xor_zero]
            obtain ⟨h2, h3⟩ := List.getElem?_eq_some_iff.1 hx
            rw [← h3, List.set_getElem_self]
          rw [hset]; exact (rd_words h1).2.2
        · rw [if_neg h0, rdErr, if_pos (by simp [len_words]), if_neg (spoilt h1 (by omega) (b := B) (by omega) hd h0 hx)]
      have hsh := shl8 c B d hd
      have hw8 : IntKind.i64.wrap (8 * (B : Int)) = 8 * (B : Int) := IntWalk.i64_in _ (by omega)
      have hwc : IntKind.u64.wrap (c.toNat : Int) = (c.toNat : Int) := by rw [wrap_u64]; omega
      obtain ⟨E1, hE1⟩ : ∃ E1, E1 = rdErr ((wordsOf a b).set A (x ^^^ d)) := ⟨_, rfl⟩
      obtain ⟨W1, hW1⟩ : ∃ W1, W1 = rdW ((wordsOf a b).set A (x ^^^ d)) := ⟨_, rfl⟩
      obtain ⟨T1, hT1⟩ : ∃ T1, T1 = rdT ((wordsOf a b).set A (x ^^^ d)) := ⟨_, rfl⟩
      rw [← hE1] at hres
      have K := Lib.hid (And.intro he1 (And.intro hw1 (And.intro hE1 (And.intro hW1 (And.intro hT1 (And.intro hres hx))))))
      clear he1 hw1 hE1 hW1 hT1 hres hx hd h1
      go_enter Try.func7, Try.ntmps7
      go_wp2_with fail
      refine calls_gen (fun V => Bx V w.heap.size 23 #[.int .i64 a, .int .i64 b] ∧ Below w.heap.size w V) ⟨Bx.new _ _ _, (Below.refl _ w).alloc (Nat.le_refl _) _⟩ ?_
      rintro w1 ⟨g1, BB⟩
      have c_g1 := g1.cell
      refine (Check6R_any a b _).mono ?_
      rw [K.out.1]
      rintro e w' ⟨rfl, k⟩
      clear c_g1
      replace g1 := g1.below k; have c_g1 := g1.cell; replace BB := BB.trans (k.mono BB.size); clear k
      go_wp2_with fail
      refine (Write6_any a b _).mono ?_
      rw [K.out.1, K.out.2.1]
      rintro e w2 ⟨x1, rfl, ⟨E, o⟩, k⟩
      have r1 := o.rd
      clear c_g1 g1
      replace BB := BB.trans (k.mono BB.size); clear k o
      have l1 := Rd.len r1 Try.underlying25
      rw [len_words] at l1
      go_wp2_with fail
      refine (Twin_any _ _ _ r1 (by rw [len_words]; omega)).mono ?_
      rintro e w3 ⟨x2, rfl, o, k⟩
      obtain ⟨ad, u0, hix, hcell, hf, hB, hu, hst⟩ := own_at (P := Try.prog) o Try.underlying25 one_u64 (k := (A : Int)) p1 (by rw [len_words]; omega)
      obtain rfl : u0 = .int .u64 x.toNat := by
        have h2 := hu.out
        rw [Int.toNat_natCast, List.getElem?_map, K.out.2.2.2.2.2.2] at h2
        exact (Option.some.inj h2).symm
      have o3 : OwnW (w3.setCell ad (.int .u64 (x ^^^ d).toNat)) w2.heap.size 30 x2 ((wordsOf a b).set A (x ^^^ d)) := by
        have := hst (.int .u64 (x ^^^ d).toNat)
        rw [Int.toNat_natCast] at this
        exact OwnW.set this
      have bs : Below w.heap.size w (w3.setCell ad (.int .u64 (x ^^^ d).toNat)) := (BB.trans (k.mono BB.size)).setCell (Nat.le_trans BB.size hB) _
      have R3 := Lib.hid o3.rd; have HB := Lib.hid bs
      clear o o3 bs k BB hst hB hu r1
      go_wp2
      go_region
      go_wp2_with fail
      rw [bits_xor_u64 x d]
      refine calls_gen (fun V => Words V x2 ((wordsOf a b).set A (x ^^^ d)) ∧ Below w.heap.size w V) ⟨R3.out.drew, HB.out.drew⟩ ?_
      clear R3 HB hix hcell hf hsh
      rintro w4 ⟨r3, BB⟩
      refine (Read6_any _ _ _ r3).mono ?_
      rw [← K.out.2.2.1, ← K.out.2.2.2.1, ← K.out.2.2.2.2.1]
      unfold supV
      rintro e w5 ⟨rfl, k⟩
      replace BB := BB.trans (k.mono BB.size); clear k r3
      have hE := K.out.2.2.2.2.2.1
      by_cases h0 : c = 0
      · rw [if_pos h0] at hE
        have t1 : ((c.toNat : Int) == 0) = true := by rw [h0]; rfl
        subst hE
        go_wp2_with fail
        refine (alive6_any _).mono ?_
        rintro e w6 ⟨rfl, k⟩
        have B2 := (BB.alloc BB.size (.cells #[.int .i64 W1, .int .i64 T1] 23)).trans (k.mono (Nat.le_trans BB.size (by simp)))
        go_wp2
        go_ret
        exact ⟨rfl, B2⟩
      · rw [if_neg h0] at hE
        have t1 : ((c.toNat : Int) == 0) = false := by
          rw [beq_eq_false_iff_ne]; intro h
          exact h0 (UInt8.toNat_inj.1 (by rw [show (0 : UInt8).toNat = 0 from rfl]; omega))
        subst hE
        go_wp2_with fail
        refine (alive6_any _).mono ?_
        rintro e w6 ⟨rfl, k⟩
        have B2 := (BB.alloc BB.size (.cells #[.int .i64 W1, .int .i64 T1] 23)).trans (k.mono (Nat.le_trans BB.size (by simp)))
        go_wp2
        go_ret
        exact ⟨rfl, B2⟩
    · have he1 : supErr a b = 0 := if_pos h1
      have K := Lib.hid he1; have HR := Lib.hid hr
      clear he1 h1 hr
      go_enter Try.func7, Try.ntmps7
      go_wp2_with fail
      refine calls_gen (fun V => Bx V w.heap.size 23 #[.int .i64 a, .int .i64 b] ∧ Below w.heap.size w V) ⟨Bx.new _ _ _, (Below.refl _ w).alloc (Nat.le_refl _) _⟩ ?_
      rintro w1 ⟨g1, BB⟩
      refine (Check6R_any a b _).mono ?_
      rw [K.out]
      rintro e w' ⟨rfl, k⟩
      replace BB := BB.trans (k.mono BB.size); clear k g1
      have HBB := Lib.hid BB; clear BB
      go_wp2_with (go_at_call 19; refine (alive6_any _).mono ?_; rintro e w6 ⟨rfl, k⟩)
      all_goals
        first
        | (exfalso; have := HR.out; omega)
        | (go_ret
           exact ⟨rfl, HBB.out.trans (Below.mono ‹Below _ _ _› HBB.out.size)⟩)
  · have he1 : supErr a b = 8 := if_neg h1
    have K := Lib.hid he1
    clear he1 h1
    go_enter Try.func7, Try.ntmps7
    go_wp2_with fail
    refine calls_gen (fun V => Bx V w.heap.size 23 #[.int .i64 a, .int .i64 b] ∧ Below w.heap.size w V) ⟨Bx.new _ _ _, (Below.refl _ w).alloc (Nat.le_refl _) _⟩ ?_
    rintro w1 ⟨g1, BB⟩
    refine (Check6R_any a b _).mono ?_
    rw [K.out]
    rintro e w' ⟨rfl, k⟩
    replace BB := BB.trans (k.mono BB.size); clear k g1
    go_wp2_with fail
    refine (alive6_any _).mono ?_
    rintro e w' ⟨rfl, k⟩
    replace BB := BB.trans (k.mono BB.size); clear k
    go_wp2
    go_ret
    exact ⟨rfl, BB⟩
end Go.Proofs.Ytkaifjihinlbgaa
