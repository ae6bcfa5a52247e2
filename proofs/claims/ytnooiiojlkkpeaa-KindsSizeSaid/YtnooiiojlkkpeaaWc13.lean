/- The walks of the laws KindsSpoilt, KindsSize. -/
import Derived.Test.YtnooiiojlkkpeaaC13e
import Derived.Test.YtnooiiojlkkpeaaL06
set_option linter.unusedVariables false
set_option linter.unusedSimpArgs false
namespace Go.Proofs.Ytnooiiojlkkpeaa
open Go.RowKit L02 L05 L13

theorem spoilt_bit {a d : UInt64} {k : Nat} (hk : k < 64) (hd : d.toNat = 2 ^ k) : a ^^^ d ≠ a ∧ L05.sum [a ^^^ d] ≠ L05.sum [a] := by
  have hc : (UInt8.ofNat (2 ^ (k % 8))).toNat = 2 ^ (k % 8) := by
    rw [UInt8.toNat_ofNat']
    exact Nat.mod_eq_of_lt (Nat.pow_lt_pow_right (by omega) (by omega))
  have hd' : d.toNat = (UInt8.ofNat (2 ^ (k % 8))).toNat * 256 ^ (k / 8) := by
    rw [hd, hc, L06.two_pow8, ← Nat.pow_add]
    congr 1; omega
  have hne : UInt8.ofNat (2 ^ (k % 8)) ≠ 0 := by
    intro h
    have h2 := congrArg UInt8.toNat h
    rw [hc] at h2
    have := Nat.two_pow_pos (k % 8)
    simp at h2
  obtain ⟨c1, c2⟩ := L06.change_byte a d (UInt8.ofNat (2 ^ (k % 8))) hd'
  refine ⟨L06.word_ne hd' hne, ?_⟩
  have := L06.sum_ne (p := []) (q := []) (x := a ^^^ d) (y := a) (b := k / 8) (by omega) c1 (by rw [c2]; exact L06.xor_ne _ _ hne)
  exact this
theorem spoilt_no {l : List UInt8} (h : kErr l = 0) {d : UInt64} {k : Nat} (hk : k < 64) (hd : d.toNat = 2 ^ k) : ¬ RdOk (w0 l ^^^ d) (w1 l) ∧ ¬ RdOk (w0 l) (w1 l ^^^ d) := by
  have hb : w1 l = L05.sum [w0 l] := by rw [w1, if_pos h]
  constructor
  · intro hr
    have := ((rd_iff _ _).1 hr).2
    rw [hb] at this
    exact (spoilt_bit (a := w0 l) hk hd).2 this.symm
  · intro hr
    have := ((rd_iff _ _).1 hr).2
    rw [← hb] at this
    exact (spoilt_bit (a := w1 l) hk hd).1 this

set_option maxRecDepth 100000 in
set_option maxHeartbeats 4000000 in
theorem KindsSpoilt_walk (v0 : Value) (l : List UInt8) (bit : Int) (w : World) (h0 : Byts w v0 l) (f1 : -9223372036854775808 ≤ bit ∧ bit ≤ 9223372036854775807) :
    Calls Try.prog 5 #[v0, .int .i64 bit] w fun e w' => e = .returned (.bool true) ∧ Below w.heap.size w w' := by
  clear f1
  have B : Below w.heap.size w w := Below.refl _ _
  have l1 := Rd.len h0 Try.underlying22
  have H := Lib.hid h0; clear h0
  by_cases hb1 : 8 < l.length
  · skip
    go_enter Try.func5, Try.ntmps5
    go_wp2_with fail
    refine (alive13_any _).mono ?_
    rintro e w' ⟨rfl, b⟩
    replace B := B.trans (b.mono B.size); clear b
    go_wp2
    go_ret
    exact ⟨rfl, B⟩
  obtain ⟨e1, he1⟩ : ∃ e, e = kErr l := ⟨_, rfl⟩
  have A1 := fun w h => KCheck_any v0 l e1 he1 w h
  have H1 := Lib.hid A1; clear A1
  by_cases he : kErr l = 0
  · have he0 := he1.trans he
    subst he0
    clear he1
    by_cases hin : 0 ≤ bit ∧ bit ≤ 127
    · obtain ⟨i1, i2⟩ := hin
      obtain ⟨k, rfl⟩ := Int.eq_ofNat_of_zero_le i1
      obtain ⟨j, hj⟩ : ∃ j, j = k % 64 := ⟨_, rfl⟩
      have hj64 : j < 64 := by omega
      obtain ⟨d, hd⟩ : ∃ d : UInt64, d = UInt64.ofNat (2 ^ j) := ⟨_, rfl⟩
      have hdn : d.toNat = 2 ^ j := by
        rw [hd, UInt64.toNat_ofNat']
        exact Nat.mod_eq_of_lt (Nat.pow_lt_pow_right (by omega) hj64)
      obtain ⟨n1, n2⟩ := spoilt_no he hj64 hdn
      obtain ⟨a, ha⟩ : ∃ c, c = w0 l := ⟨_, rfl⟩
      obtain ⟨b, hb⟩ : ∃ c, c = w1 l := ⟨_, rfl⟩
      rw [← ha, ← hb] at n1 n2
      have A2 := fun w h => KWrite_any v0 l a b 0 ha hb he.symm w h
      have A3 := fun w => KRead_any (a ^^^ d) b [] 50 (by rw [rdL, if_neg n1]) (by rw [rdE, if_neg n1]) w
      have A4 := fun w => KRead_any a (b ^^^ d) [] 50 (by rw [rdL, if_neg n2]) (by rw [rdE, if_neg n2]) w
      rw [UInt64.toNat_xor] at A3 A4
      have H2 := Lib.hid A2; have H3 := Lib.hid A3; have H4 := Lib.hid A4
      have x1 := bits_xor_u64 a d
      have x2 := bits_xor_u64 b d
      have hsh : IntKind.u64.wrap ((2 : Int) ^ j) = (d.toNat : Int) := by
        rw [wrap_u64, hdn]
        have : (2 : Nat) ^ j < 2 ^ 64 := Nat.pow_lt_pow_right (by omega) hj64
        have e : ((2 : Int) ^ j) = ((2 ^ j : Nat) : Int) := by rw [Int.natCast_pow]; rfl
        rw [e]
        generalize 2 ^ j = z at this
        omega
      have HD := Lib.hid hd; have HDN := Lib.hid hdn
      clear A2 A3 A4 n1 n2 ha hb hd hdn he
      have hr : (k : Int) % 64 = (j : Int) := by omega
      have hcase : k / 64 = 0 ∨ k / 64 = 1 := by omega
      rcases hcase with hq | hq
      · have hq' : (k : Int) / 64 = 0 := by omega
        clear hq hj
        go_enter Try.func5, Try.ntmps5
        go_wp2_with fail
        refine (alive13_any _).mono ?_
        rintro e w' ⟨rfl, b⟩
        replace B := B.trans (b.mono B.size); clear b
        go_wp2_with fail
        refine (H1.out _ (H.out.below B)).mono ?_
        rintro e w2 ⟨rfl, rfl⟩
        go_wp2_with fail
        refine (H2.out _ (H.out.below B)).mono ?_
        rintro e w' ⟨rfl, b⟩
        replace B := B.trans (b.mono B.size); clear b
        go_wp2_with fail
        refine calls_gen (fun Wv => Below w'.heap.size w' Wv) ((Below.refl _ w').alloc (by simp <;> omega) _) ?_
        intro w' b
        replace B := B.trans (b.mono B.size); clear b
        go_wp2_with fail
        refine (H3.out _).mono ?_
        rintro e w' ⟨x9, rfl, o9, b⟩
        replace B := B.trans (b.mono B.size); clear b
        go_wp2
        go_ret
        exact ⟨rfl, B⟩
      · have hq' : (k : Int) / 64 = 1 := by omega
        clear hq hj
        go_enter Try.func5, Try.ntmps5
        go_wp2_with fail
        refine (alive13_any _).mono ?_
        rintro e w' ⟨rfl, b⟩
        replace B := B.trans (b.mono B.size); clear b
        go_wp2_with fail
        refine (H1.out _ (H.out.below B)).mono ?_
        rintro e w2 ⟨rfl, rfl⟩
        go_wp2_with fail
        refine (H2.out _ (H.out.below B)).mono ?_
        rintro e w' ⟨rfl, b⟩
        replace B := B.trans (b.mono B.size); clear b
        go_wp2_with fail
        refine calls_gen (fun Wv => Below w'.heap.size w' Wv) ((Below.refl _ w').alloc (by simp <;> omega) _) ?_
        intro w' b
        replace B := B.trans (b.mono B.size); clear b
        go_wp2_with fail
        refine (H4.out _).mono ?_
        rintro e w' ⟨x9, rfl, o9, b⟩
        replace B := B.trans (b.mono B.size); clear b
        go_wp2
        go_ret
        exact ⟨rfl, B⟩
    · have hcase : bit < 0 ∨ 0 ≤ bit ∧ 127 < bit := by omega
      clear hin he
      rcases hcase with hn | ⟨hn, hn2⟩
      all_goals
        go_enter Try.func5, Try.ntmps5
        go_wp2_with fail
        refine (alive13_any _).mono ?_
        rintro e w' ⟨rfl, b⟩
        replace B := B.trans (b.mono B.size); clear b
        go_wp2_with fail
        refine (H1.out _ (H.out.below B)).mono ?_
        rintro e w2 ⟨rfl, rfl⟩
        go_wp2
        go_ret
        exact ⟨rfl, B⟩
  · have hne : (e1 != 0) = true := by rw [bne_iff_ne, he1]; exact he
    clear he he1
    go_enter Try.func5, Try.ntmps5
    go_wp2_with fail
    refine (alive13_any _).mono ?_
    rintro e w' ⟨rfl, b⟩
    replace B := B.trans (b.mono B.size); clear b
    go_wp2_with fail
    refine (H1.out _ (H.out.below B)).mono ?_
    rintro e w2 ⟨rfl, rfl⟩
    go_wp2
    go_ret
    exact ⟨rfl, B⟩

theorem kErr_snoc {l : List UInt8} {x : UInt8} (h : kErr l = 0) (hl : l.length < 8) (h1 : 1 ≤ x.toNat) (h3 : x.toNat ≤ 3) : kErr (l ++ [x]) = 0 := by
  obtain ⟨_, h2⟩ := kErr_ok h
  refine kErr_of (by simp; omega) fun y hy => ?_
  rcases List.mem_append.1 hy with hy | hy
  · exact h2 y hy
  · simp at hy; subst hy; exact ⟨h1, h3⟩
theorem kSize_at {l : List UInt8} (h : kErr l = 0) : kSize l = 2 + (((l.length + 1) / 2 * 2 : Nat) : Int) := by rw [kSize, if_pos h]

set_option maxRecDepth 100000 in
set_option maxHeartbeats 4000000 in
theorem KindsSize_walk (v0 : Value) (l : List UInt8) (x : UInt8) (w : World) (h0 : Byts w v0 l) :
    Calls Try.prog 6 #[v0, .int .u8 x.toNat] w fun e w' => e = .returned (.bool true) ∧ Below w.heap.size w w' := by
  have B : Below w.heap.size w w := Below.refl _ _
  have l1 := Rd.len h0 Try.underlying22
  have H := Lib.hid h0; clear h0
  have hxl := x.toNat_lt
  by_cases hb1 : 8 ≤ l.length
  · skip
    go_enter Try.func6, Try.ntmps6
    go_wp2_with fail
    refine (alive13_any _).mono ?_
    rintro e w' ⟨rfl, b⟩
    replace B := B.trans (b.mono B.size); clear b
    go_wp2
    go_ret
    exact ⟨rfl, B⟩
  obtain ⟨e1, he1⟩ : ∃ e, e = kErr l := ⟨_, rfl⟩
  have A1 := fun w h => KCheck_any v0 l e1 he1 w h
  have H1 := Lib.hid A1; clear A1
  by_cases he : kErr l = 0
  · have he0 := he1.trans he
    subst he0
    clear he1
    by_cases hin : 1 ≤ x.toNat ∧ x.toNat ≤ 3
    · obtain ⟨i1, i2⟩ := hin
      have hs := kErr_snoc (x := x) he (by omega) i1 i2
      obtain ⟨N, hN⟩ : ∃ N, N = l.length := ⟨_, rfl⟩
      obtain ⟨n, hn⟩ : ∃ n, n = kSize l := ⟨_, rfl⟩
      obtain ⟨m, hm⟩ : ∃ m, m = kSize (l ++ [x]) := ⟨_, rfl⟩
      have A2 := fun w h => KSize_any v0 l n 0 hn he.symm w h
      have A3 := fun v w h => KSize_any v (l ++ [x]) m 0 hm hs.symm w h
      have H2 := Lib.hid A2; have H3 := Lib.hid A3
      rw [kSize_at he, ← hN] at hn
      rw [kSize_at hs, List.length_append, ← hN] at hm
      simp only [List.length_cons, List.length_nil] at hm
      have n1 : n ≤ N + 3 := by omega
      have n2 : (N : Int) + 2 ≤ n := by omega
      have n3 : n % 2 = 0 := by omega
      have n4 : (N : Int) % 2 = 0 ∧ n + 2 = m ∨ (N : Int) % 2 = 1 ∧ n = m := by omega
      have hN8 : N < 8 := by omega
      have HN := Lib.hid hN
      rw [← hN] at l1
      clear A2 A3 hn hm hs he hN hb1
      have hp : (n % 2 == 0) = true := by rw [beq_iff_eq]; exact n3
      clear n3
      rcases n4 with ⟨n5, rfl⟩ | ⟨n5, rfl⟩
      · have hp2 : ((N : Int) % 2 == 0) = true := by rw [beq_iff_eq]; exact n5
        clear n5
        go_enter Try.func6, Try.ntmps6
        go_wp2_with fail
        refine (alive13_any _).mono ?_
        rintro e w' ⟨rfl, b⟩
        replace B := B.trans (b.mono B.size); clear b
        go_wp2_with fail
        refine (H1.out _ (H.out.below B)).mono ?_
        rintro e w2 ⟨rfl, rfl⟩
        go_wp2_with fail
        refine (H2.out _ (H.out.below B)).mono ?_
        rintro e w2 ⟨rfl, rfl⟩
        have H5 := Lib.hid (H.out.below B); have HBB := Lib.hid B; clear B
        go_wp2_with (at_builtin; first
          | (refine wpList_append (by rfl) rfl rfl rfl Try.underlying22 info_u8 rfl (by omega) (lit0_own HBB.out.size) (by exact H5.out.alloc _) (one_u8s _) (by have := HN.out; omega) (by have := HN.out; omega) (by exact HBB.out.alloc HBB.out.size _) (Nat.le_refl _) ?_; intro v8 w8 o8 B8 g8; clear g8; have HO8 := Lib.hid o8; have HB8 := Lib.hid B8; clear o8 B8)
          | (refine wpList_append (by rfl) rfl rfl rfl Try.underlying22 info_u8 rfl (by omega) (by exact own_below HO8.out ((Below.refl _ _).alloc (Nat.le_refl _) _)) (by exact lit_u8 _ x rfl rfl) (one_u8' x) (by have := HN.out; omega) (by have := HN.out; omega) (by exact HB8.out.alloc HB8.out.size _) (Nat.le_refl _) ?_; intro v9 w9 o9 B9 g9; clear g9; have HO9 := Lib.hid o9; have HB9 := Lib.hid B9; clear o9 B9))
        refine (H3.out v9 _ (OwnB.rd (OwnB.of HO9.out (by simp)))).mono ?_
        rintro e w10 ⟨rfl, rfl⟩
        go_wp2
        go_ret
        exact ⟨rfl, HB9.out⟩
      · have hp2 : ((N : Int) % 2 == 0) = false := by rw [beq_eq_false_iff_ne]; omega
        clear n5
        go_enter Try.func6, Try.ntmps6
        go_wp2_with fail
        refine (alive13_any _).mono ?_
        rintro e w' ⟨rfl, b⟩
        replace B := B.trans (b.mono B.size); clear b
        go_wp2_with fail
        refine (H1.out _ (H.out.below B)).mono ?_
        rintro e w2 ⟨rfl, rfl⟩
        go_wp2_with fail
        refine (H2.out _ (H.out.below B)).mono ?_
        rintro e w2 ⟨rfl, rfl⟩
        have H5 := Lib.hid (H.out.below B); have HBB := Lib.hid B; clear B
        go_wp2_with (at_builtin; first
          | (refine wpList_append (by rfl) rfl rfl rfl Try.underlying22 info_u8 rfl (by omega) (lit0_own HBB.out.size) (by exact H5.out.alloc _) (one_u8s _) (by have := HN.out; omega) (by have := HN.out; omega) (by exact HBB.out.alloc HBB.out.size _) (Nat.le_refl _) ?_; intro v8 w8 o8 B8 g8; clear g8; have HO8 := Lib.hid o8; have HB8 := Lib.hid B8; clear o8 B8)
          | (refine wpList_append (by rfl) rfl rfl rfl Try.underlying22 info_u8 rfl (by omega) (by exact own_below HO8.out ((Below.refl _ _).alloc (Nat.le_refl _) _)) (by exact lit_u8 _ x rfl rfl) (one_u8' x) (by have := HN.out; omega) (by have := HN.out; omega) (by exact HB8.out.alloc HB8.out.size _) (Nat.le_refl _) ?_; intro v9 w9 o9 B9 g9; clear g9; have HO9 := Lib.hid o9; have HB9 := Lib.hid B9; clear o9 B9))
        refine (H3.out v9 _ (OwnB.rd (OwnB.of HO9.out (by simp)))).mono ?_
        rintro e w10 ⟨rfl, rfl⟩
        go_wp2
        go_ret
        exact ⟨rfl, HB9.out⟩
    · have hcase : x.toNat < 1 ∨ 1 ≤ x.toNat ∧ 3 < x.toNat := by omega
      clear hin he
      rcases hcase with hn | ⟨hn, hn2⟩
      all_goals
        go_enter Try.func6, Try.ntmps6
        go_wp2_with fail
        refine (alive13_any _).mono ?_
        rintro e w' ⟨rfl, b⟩
        replace B := B.trans (b.mono B.size); clear b
        go_wp2_with fail
        refine (H1.out _ (H.out.below B)).mono ?_
        rintro e w2 ⟨rfl, rfl⟩
        go_wp2
        go_ret
        exact ⟨rfl, B⟩
  · have hne : (e1 != 0) = true := by rw [bne_iff_ne, he1]; exact he
    clear he he1
    go_enter Try.func6, Try.ntmps6
    go_wp2_with fail
    refine (alive13_any _).mono ?_
    rintro e w' ⟨rfl, b⟩
    replace B := B.trans (b.mono B.size); clear b
    go_wp2_with fail
    refine (H1.out _ (H.out.below B)).mono ?_
    rintro e w2 ⟨rfl, rfl⟩
    go_wp2
    go_ret
    exact ⟨rfl, B⟩
end Go.Proofs.Ytnooiiojlkkpeaa
