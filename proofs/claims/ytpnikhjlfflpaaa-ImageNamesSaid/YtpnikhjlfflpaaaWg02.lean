/- The walk of the law ImageNames. -/
import Derived.Test.YtpnikhjlfflpaaaWb02
set_option linter.unusedVariables false
set_option linter.unusedSimpArgs false
namespace Go.Proofs.Ytpnikhjlfflpaaa
open Go.RowKit L02

theorem OwnW.zeros {w : World} {B E n : Nat} {v : Value} (h : w.ownsRow B E 1 v n (List.replicate n (.int .u64 0))) : OwnW w B E v (zeros n) := OwnW.of h (by unfold L02.zeros; rw [List.map_replicate]; rfl)

set_option maxRecDepth 100000 in
set_option maxHeartbeats 4000000 in
theorem ImageNames_walk (w : World) : Calls Try.prog 7 #[] w (True_ w) := by
  have B : Below w.heap.size w w := Below.refl _ _
  go_enter Try.func7, Try.ntmps7
  go_wp2
  have r0 := lit_ints (w := w) (cs := #[.int .i64 (-8), .int .i64 0, .int .i64 8, .int .i64 248, .int .i64 255, .int .i64 257, .int .i64 260, .int .i64 2047, .int .i64 2049, .int .i64 2056]) (e := 3) badSizes rfl rfl (by decide)
  replace B := B.alloc B.size (.cells #[.int .i64 (-8), .int .i64 0, .int .i64 8, .int .i64 248, .int .i64 255, .int .i64 257, .int .i64 260, .int .i64 2047, .int .i64 2049, .int .i64 2056] 3)
  have HR0 := Lib.hid r0; have HB := Lib.hid B; clear r0 B
  go_loopw [2] (fun i wr => ∃ k : Nat, k ≤ 10 ∧ i = .int .i64 k ∧ Ints wr (.slice (some ⟨w.heap.size, 0, none⟩) 10 10) badSizes ∧ Below w.heap.size w wr) (fun i _ => 10 - (intOf i).toNat)
  case atStart => exact ⟨0, by omega, rfl, HR0.out, HB.out⟩
  case round =>
    obtain ⟨k, hk, rfl, r0, B⟩ := hrel
    by_cases hlt : k < 10
    · obtain ⟨ad, x, ia, ca, hx⟩ := r0.at_ Try.underlying29 one_int (k := k) hlt
      obtain ⟨f1, f2, f3⟩ := bad_all x (List.mem_of_getElem? hx.out)
      have H1 := Lib.hid f1
      have hy : (0 < x ∧ 0 ≤ x ∧ x ≤ 2056 ∧ ¬ SizeOk x) ∨ (x ≤ 0 ∧ ¬ SizeOk 0) := by
        by_cases h : 0 < x
        · rw [Int.max_eq_right (by omega)] at f2 f3; exact .inl ⟨h, by omega, f3, f2⟩
        · rw [Int.max_eq_left (by omega)] at f2; exact .inr ⟨by omega, f2⟩
      clear f1 f2 f3
      rcases hy with ⟨y1, y2, y3, y4⟩ | ⟨y1, y4⟩
      · have H2 := Lib.hid y4; clear y4
        have HR := Lib.hid r0; have HB := Lib.hid B; clear r0 B
        go_wp2_with (at_make; refine wpList_makeI (by rfl) rfl rfl rfl Try.underlying22 info_u64 rfl y2 (by omega) (by omega) HB.out (Nat.le_refl _) ?_; intro v1 w1 o1 B b; have ca1 := (b.cell (World.block_lt_of_cell? _ _ ca)).trans ca)
        have r1 := (OwnW.zeros o1).rd; have r0 := HR.out.below b
        have hbad : ¬ SizeOk (zeros (x).toNat).length := by rw [zeros_len]; have := H2.out; rwa [Int.toNat_of_nonneg (by omega)]
        have HBAD := Lib.hid hbad
        clear o1 b HB HR hbad ca ca1
        refine (New_any _ _).mono ?_
        rw [show newErr x = 2 from if_neg H1.out]
        rintro e w' ⟨x1, rfl, o, b⟩
        replace r1 := r1.below b; replace r0 := r0.below b; replace B := B.trans (b.mono B.size); clear o b
        go_wp2_with fail
        refine (Get_any _ _ _ _ _ r1).mono ?_
        rw [rng_bad HBAD.out]
        rintro e w' ⟨x2, rfl, o, b⟩
        replace r1 := r1.below b; replace r0 := r0.below b; replace B := B.trans (b.mono B.size); clear o b
        go_wp2_with fail
        refine (Put_any _ _ _ _ _ _ r1 (Words.nil _)).mono ?_
        rw [rng_bad HBAD.out]
        rintro e w' ⟨x3, rfl, o, b⟩
        replace r1 := r1.below b; replace r0 := r0.below b; replace B := B.trans (b.mono B.size); clear o b
        go_wp2_with fail
        refine (Line_any _ _ _ _ r1).mono ?_
        rw [rng_bad HBAD.out]
        rintro e w5 ⟨rfl, rfl⟩
        have HB := Lib.hid B; clear B
        go_wp2_with (at_make; refine wpList_makeI (by rfl) rfl rfl rfl Try.underlying22 info_u64 rfl (by omega) (by omega) (by omega) HB.out (Nat.le_refl _) ?_; intro v6 w6 o6 B b)
        have r6 := (OwnW.zeros o6).rd
        replace r1 := r1.below b; replace r0 := r0.below b; clear o6 b HB
        refine (Diff_any _ _ _ _ _ r1 r6).mono ?_
        rw [diffErr_l HBAD.out]
        rintro e w7 ⟨x7, rfl, o, b⟩
        replace r1 := r1.below b; replace r0 := r0.below b; replace B := B.trans (b.mono B.size); clear o b r6
        have HB := Lib.hid B; clear B
        go_wp2_with (at_make; refine wpList_makeI (by rfl) rfl rfl rfl Try.underlying22 info_u64 rfl (by omega) (by omega) (by omega) HB.out (Nat.le_refl _) ?_; intro v6 w8 o6 B b)
        have r6 := (OwnW.zeros o6).rd
        replace r1 := r1.below b; replace r0 := r0.below b; clear o6 b HB
        refine (Diff_any _ _ _ _ _ r6 r1).mono ?_
        rw [diffErr_r HBAD.out]
        rintro e w9 ⟨x9, rfl, o, b⟩
        replace r1 := r1.below b; replace r0 := r0.below b; replace B := B.trans (b.mono B.size); clear o b r6
        go_wp2_with fail
        refine (Check_any _ _ _ r1).mono ?_
        rw [chk_no HBAD.out]
        rintro e w' ⟨rfl, rfl⟩
        have HR := Lib.hid r0; have HB := Lib.hid B; clear r0 B r1
        go_wp2
        go_roundw
        case rel => exact ⟨k + 1, by omega, by go_num, HR.out, HB.out⟩
        case measure => simp [intOf]; omega
      · have H2 := Lib.hid y4; clear y4
        have HR := Lib.hid r0; have HB := Lib.hid B; clear r0 B
        go_wp2_with (at_make; refine wpList_makeI (by rfl) rfl rfl rfl Try.underlying22 info_u64 rfl (by omega) (by omega) (by omega) HB.out (Nat.le_refl _) ?_; intro v1 w1 o1 B b; have ca1 := (b.cell (World.block_lt_of_cell? _ _ ca)).trans ca)
        have r1 := (OwnW.zeros o1).rd; have r0 := HR.out.below b
        have hbad : ¬ SizeOk (zeros (0 : Int).toNat).length := by rw [zeros_len]; have := H2.out; rwa [Int.toNat_of_nonneg (by omega)]
        have HBAD := Lib.hid hbad
        clear o1 b HB HR hbad ca ca1
        refine (New_any _ _).mono ?_
        rw [show newErr x = 2 from if_neg H1.out]
        rintro e w' ⟨x1, rfl, o, b⟩
        replace r1 := r1.below b; replace r0 := r0.below b; replace B := B.trans (b.mono B.size); clear o b
        go_wp2_with fail
        refine (Get_any _ _ _ _ _ r1).mono ?_
        rw [rng_bad HBAD.out]
        rintro e w' ⟨x2, rfl, o, b⟩
        replace r1 := r1.below b; replace r0 := r0.below b; replace B := B.trans (b.mono B.size); clear o b
        go_wp2_with fail
        refine (Put_any _ _ _ _ _ _ r1 (Words.nil _)).mono ?_
        rw [rng_bad HBAD.out]
        rintro e w' ⟨x3, rfl, o, b⟩
        replace r1 := r1.below b; replace r0 := r0.below b; replace B := B.trans (b.mono B.size); clear o b
        go_wp2_with fail
        refine (Line_any _ _ _ _ r1).mono ?_
        rw [rng_bad HBAD.out]
        rintro e w5 ⟨rfl, rfl⟩
        have HB := Lib.hid B; clear B
        go_wp2_with (at_make; refine wpList_makeI (by rfl) rfl rfl rfl Try.underlying22 info_u64 rfl (by omega) (by omega) (by omega) HB.out (Nat.le_refl _) ?_; intro v6 w6 o6 B b)
        have r6 := (OwnW.zeros o6).rd
        replace r1 := r1.below b; replace r0 := r0.below b; clear o6 b HB
        refine (Diff_any _ _ _ _ _ r1 r6).mono ?_
        rw [diffErr_l HBAD.out]
        rintro e w7 ⟨x7, rfl, o, b⟩
        replace r1 := r1.below b; replace r0 := r0.below b; replace B := B.trans (b.mono B.size); clear o b r6
        have HB := Lib.hid B; clear B
        go_wp2_with (at_make; refine wpList_makeI (by rfl) rfl rfl rfl Try.underlying22 info_u64 rfl (by omega) (by omega) (by omega) HB.out (Nat.le_refl _) ?_; intro v6 w8 o6 B b)
        have r6 := (OwnW.zeros o6).rd
        replace r1 := r1.below b; replace r0 := r0.below b; clear o6 b HB
        refine (Diff_any _ _ _ _ _ r6 r1).mono ?_
        rw [diffErr_r HBAD.out]
        rintro e w9 ⟨x9, rfl, o, b⟩
        replace r1 := r1.below b; replace r0 := r0.below b; replace B := B.trans (b.mono B.size); clear o b r6
        go_wp2_with fail
        refine (Check_any _ _ _ r1).mono ?_
        rw [chk_no HBAD.out]
        rintro e w' ⟨rfl, rfl⟩
        have HR := Lib.hid r0; have HB := Lib.hid B; clear r0 B r1
        go_wp2
        go_roundw
        case rel => exact ⟨k + 1, by omega, by go_num, HR.out, HB.out⟩
        case measure => simp [intOf]; omega
    · obtain rfl : k = 10 := by omega
      have HR := Lib.hid r0; have HB := Lib.hid B; clear r0 B
      go_wp2_with fail
      have B := HB.out
      refine (New_any _ _).mono ?_
      rw [nm1, show new 2048 = m2 from rfl]
      rintro e w' ⟨x1, rfl, o, b⟩
      have r1 := o.rd; replace B := B.trans (b.mono B.size); clear o b HB HR
      go_wp2_with fail
      refine (Get_any _ _ _ _ _ r1).mono ?_
      rw [nm2]
      rintro e w' ⟨x2, rfl, o, b⟩
      have r2 := o.rd; replace r1 := r1.below b; replace B := B.trans (b.mono B.size); clear o b
      clear r2
      go_wp2_with fail
      refine (Get_any _ _ _ _ _ r1).mono ?_
      rw [nm3, nm3']
      rintro e w' ⟨x3, rfl, o, b⟩
      have r3 := o.rd; replace r1 := r1.below b; replace B := B.trans (b.mono B.size); clear o b
      have l3 := Rd.len r3 Try.underlying22
      clear r3
      go_wp2_with fail
      refine (Get_any _ _ _ _ _ r1).mono ?_
      rw [nm4]
      rintro e w' ⟨x4, rfl, o, b⟩
      have r4 := o.rd; replace r1 := r1.below b; replace B := B.trans (b.mono B.size); clear o b
      clear r4
      go_wp2_with fail
      refine (Get_any _ _ _ _ _ r1).mono ?_
      rw [nm5]
      rintro e w' ⟨x5, rfl, o, b⟩
      have r5 := o.rd; replace r1 := r1.below b; replace B := B.trans (b.mono B.size); clear o b
      clear r5
      go_wp2_with fail
      refine (Get_any _ _ _ _ _ r1).mono ?_
      rw [nm6]
      rintro e w' ⟨x6, rfl, o, b⟩
      have r6 := o.rd; replace r1 := r1.below b; replace B := B.trans (b.mono B.size); clear o b
      clear r6
      go_wp2_with fail
      have r7 := lit_words (w := w') (cs := #[.int .u64 1, .int .u64 2]) (e := 51) [1, 2] rfl rfl (by simp)
      replace r1 := r1.alloc (.cells #[.int .u64 1, .int .u64 2] 51); replace B := B.alloc B.size (.cells #[.int .u64 1, .int .u64 2] 51)
      refine (Put_any _ _ _ _ _ _ r1 r7).mono ?_
      rw [show rng m2 2047 ([1, 2] : List UInt64).length = 2 from nm7]
      rintro e w7 ⟨x7, rfl, o, b⟩
      replace r1 := r1.below b; replace B := B.trans (b.mono B.size); clear o b r7
      go_wp2_with fail
      refine (Put_any _ _ _ _ _ _ r1 (Words.nil _)).mono ?_
      rw [show rng m2 (-1) ([] : List UInt64).length = 2 from nm8]
      rintro e w8 ⟨x8, rfl, o, b⟩
      replace r1 := r1.below b; replace B := B.trans (b.mono B.size); clear o b
      go_wp2_with fail
      have r9 := lit_words (w := w8) (cs := #[.int .u64 7]) (e := 51) [7] rfl rfl (by simp)
      replace r1 := r1.alloc (.cells #[.int .u64 7] 51); replace B := B.alloc B.size (.cells #[.int .u64 7] 51)
      refine (Put_any _ _ _ _ _ _ r1 r9).mono ?_
      rw [show rng m2 2047 ([7] : List UInt64).length = 0 from nm9, show put m2 2047 [7] = last from rfl]
      rintro e w9 ⟨x9, rfl, o, b⟩
      have r10 := o.rd; replace r1 := r1.below b; replace B := B.trans (b.mono B.size); clear o b r9
      go_wp2_with fail
      refine (Get_any _ _ _ _ _ r10).mono ?_
      rw [nm10, nm10']
      rintro e w' ⟨x11, rfl, o, b⟩
      have r11 := o.rd; replace r1 := r1.below b; replace B := B.trans (b.mono B.size); clear o b
      clear r10
      go_wp2_with fail
      refine (Line_any _ _ _ _ r1).mono ?_
      rw [nm2]
      rintro e w' ⟨rfl, rfl⟩
      go_wp2_with fail
      refine (Line_any _ _ _ _ r1).mono ?_
      rw [nm9, nm11, nm12]
      rintro e w12 ⟨rfl, rfl⟩
      have HB := Lib.hid B; clear B
      go_wp2_with (at_make; refine wpList_makeI (by rfl) rfl rfl rfl Try.underlying22 info_u64 rfl (by omega) (by omega) (by omega) HB.out (Nat.le_refl _) ?_; intro v13 w13 o6 B b)
      have r13 := (OwnW.zeros o6).rd
      replace r1 := r1.below b; replace r11 := r11.below b; clear o6 b HB
      refine (Diff_any _ _ _ _ _ r1 r13).mono ?_
      rw [show diffErr m2 (zeros (2040 : Int).toNat) = 2 from nm13]
      rintro e w14 ⟨x14, rfl, o, b⟩
      replace r11 := r11.below b; replace B := B.trans (b.mono B.size); clear o b r13 r1
      go_wp2_with fail
      have r15 := lit_words (w := w14) (cs := #[.int .u64 7]) (e := 51) [7] rfl rfl (by simp)
      replace r11 := r11.alloc (.cells #[.int .u64 7] 51); replace B := B.alloc B.size (.cells #[.int .u64 7] 51)
      go_wp2_with fail
      refine (Same_any _ _ _ _ _ r11 r15).mono ?_
      rw [same_refl]
      rintro e w' ⟨rfl, q⟩
      have b := q.below; replace B := B.trans (b.mono B.size); clear q b
      go_wp2_with fail
      refine (alive_any _).mono ?_
      rintro e w' ⟨rfl, b⟩
      replace B := B.trans (b.mono B.size)
      go_wp2
      go_ret
      exact ⟨rfl, B⟩
end Go.Proofs.Ytpnikhjlfflpaaa
