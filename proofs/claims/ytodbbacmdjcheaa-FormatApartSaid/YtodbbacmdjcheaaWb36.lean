/- The walk of the law FormatApart: different words or types have different new images. -/
import Derived.Test.YtodbbacmdjcheaaMAh
set_option linter.unusedVariables false
set_option linter.unusedSimpArgs false
namespace Go.Proofs.Ytodbbacmdjcheaa
open Go.RowKit L02 L05 L06 L07 L13 L14 L15 L16 L19 L73 L75

theorem errT_all : ∀ {T : List (List UInt8)}, errT T = 0 → ∀ t ∈ T, kErr t = 0
  | [], _, t, h => by simp at h
  | x :: T, h, t, ht => by
    rw [errT] at h
    by_cases h0 : kErr x = 0
    · rw [if_pos h0] at h
      rcases List.mem_cons.1 ht with rfl | ht
      · exact h0
      · exact errT_all h t ht
    · rw [if_neg h0] at h; exact absurd h h0
/-- no error: the words are right, the types few and right -/
theorem imgErr_ok {n : Int} {T : List (List UInt8)} (h : imgErr n T = 0) : ∃ N : Nat, n = N ∧ SizeOk (N : Int) ∧ T.length ≤ 8 ∧ (∀ t ∈ T, kErr t = 0) ∧ imgP n T = imageP N T := by
  have h0 := h
  rw [imgErr] at h
  by_cases hs : ¬ SizeOk n
  · rw [if_pos hs] at h; cases h
  · rw [if_neg hs] at h
    by_cases h8 : 8 < T.length
    · rw [if_pos h8] at h; cases h
    · rw [if_neg h8] at h
      have hs' := Decidable.not_not.1 hs
      obtain ⟨N, rfl⟩ := Int.eq_ofNat_of_zero_le (show 0 ≤ n by have := hs'.1; omega)
      exact ⟨N, rfl, hs', by omega, errT_all h, by rw [imgP, if_pos h0]; rfl⟩

set_option maxRecDepth 100000 in
set_option maxHeartbeats 4000000 in
theorem FormatApart_walk (n m : Int) (v2 : Value) (T : List (List UInt8)) (v3 : Value) (U : List (List UInt8)) (w : World) (f0 : -9223372036854775808 ≤ n ∧ n ≤ 9223372036854775807) (f1 : -9223372036854775808 ≤ m ∧ m ≤ 9223372036854775807) (h2 : Typs w v2 T) (h3 : Typs w v3 U) :
    Calls Try.prog 4 #[.int .i64 n, .int .i64 m, v2, v3] w fun e w' => e = .returned (.bool true) ∧ Below w.heap.size w w' := by
  clear f0 f1
  have B : Below w.heap.size w w := Below.refl _ _
  have AL := Lib.hid alive36_any
  obtain ⟨r, hr⟩ : ∃ r, r = imgErr n T := ⟨_, rfl⟩
  obtain ⟨q, hq⟩ : ∃ q, q = imgErr m U := ⟨_, rfl⟩
  have A1 := Lib.hid (fun w h => Asked_any n v2 T r hr w h)
  have A2 := Lib.hid (fun w h => Asked_any m v3 U q hq w h)
  have HR := Lib.hid hr; have HQ := Lib.hid hq
  have H2 := Lib.hid h2; have H3 := Lib.hid h3
  clear hr hq h2 h3
  go_enter Try.func4, Try.ntmps4
  go_wp2_with fail
  refine (AL.out _).mono ?_
  rintro e wa1 ⟨rfl, b⟩
  replace B := B.trans (b.mono B.size); clear b
  go_wp2_with fail
  refine (A1.out _ (H2.out.below B)).mono ?_
  rintro e w2 ⟨rfl, rfl⟩
  by_cases h0 : r = 0
  rotate_left
  · go_wp2
    go_ret
    exact ⟨rfl, B⟩
  subst h0
  go_wp2_with fail
  refine (A2.out _ (H3.out.below B)).mono ?_
  rintro e w3 ⟨rfl, rfl⟩
  by_cases h0 : q = 0
  rotate_left
  · go_wp2
    go_ret
    exact ⟨rfl, B⟩
  subst h0
  obtain ⟨N, rfl, sN, t8, gT, iN⟩ := imgErr_ok HR.out.symm
  obtain ⟨M, rfl, sM, u8, gU, iM⟩ := imgErr_ok HQ.out.symm
  have hinj := imageP_inj sN sM t8 u8 gT gU
  obtain ⟨l, hl⟩ : ∃ l, l = imageP N T := ⟨_, rfl⟩
  obtain ⟨k, hk⟩ : ∃ k, k = imageP M U := ⟨_, rfl⟩
  rw [← hl, ← hk] at hinj
  have I1 := Lib.hid (fun w h => (show Calls Try.prog 10 #[.int .i64 N, v2] w (RetWE w l 0) from by
    have := Image_any N v2 T w h; rw [← HR.out, iN, ← hl] at this; exact this))
  have I2 := Lib.hid (fun w h => (show Calls Try.prog 10 #[.int .i64 M, v3] w (RetWE w k 0) from by
    have := Image_any M v3 U w h; rw [← HQ.out, iM, ← hk] at this; exact this))
  obtain ⟨b, hb⟩ : ∃ b, b = L02.same l k := ⟨_, rfl⟩
  obtain ⟨c, hc⟩ : ∃ c, c = decide (T = U) := ⟨_, rfl⟩
  have HBC := Lib.hid (show b = (((N : Int) == M) && c) from by
    rw [hb, hc, Bool.eq_iff_iff, L02.same, Bool.and_eq_true, decide_eq_true_iff, beq_iff_eq]
    simp only [beq_iff_eq, Int.natCast_inj]
    rw [decide_eq_true_iff]; exact hinj)
  have ST := Lib.hid (fun va vb w h1 h2 => Same_r va vb l k b hb w h1 h2)
  have TT := Lib.hid (fun w h1 h2 => SameT_any v2 v3 T U c hc w h1 h2)
  clear hl hk hinj hb hc sN sM t8 u8 gT gU iN iM A1 A2 HR HQ
  go_wp2_with fail
  refine (I1.out _ (H2.out.below B)).mono ?_
  rintro e w2 ⟨x, rfl, o, b⟩
  have p1 := o.rd
  replace B := B.trans (b.mono B.size); clear b o
  go_wp2_with fail
  refine (I2.out _ (H3.out.below B)).mono ?_
  rintro e w3 ⟨y, rfl, o, b⟩
  have p2 := o.rd
  replace p1 := p1.below b
  replace B := B.trans (b.mono B.size); clear b o
  by_cases hNM : N = M
  · subst hNM
    have hbc : b = c := by have := HBC.out; simpa using this
    subst hbc
    go_wp2_with fail
    refine (ST.out _ _ _ p1 p2).mono ?_
    rintro e wa2 ⟨rfl, b⟩
    replace p1 := p1.below b; replace p2 := p2.below b; replace B := B.trans (b.mono B.size); clear b
    go_wp2_with fail
    refine (TT.out _ (H2.out.below B) (H3.out.below B)).mono ?_
    rintro e w5 ⟨rfl, b'⟩
    replace B := B.trans (b'.mono B.size)
    go_wp2
    go_ret
    exact ⟨by simp, B⟩
  · have hbc : b = false := by have := HBC.out; rw [this]; simp; intro h; omega
    subst hbc
    have hne : ¬ ((N : Int) = M) := by omega
    go_wp2_with fail
    refine (ST.out _ _ _ p1 p2).mono ?_
    rintro e wa3 ⟨rfl, b⟩
    replace p1 := p1.below b; replace p2 := p2.below b; replace B := B.trans (b.mono B.size); clear b
    go_wp2
    go_ret
    exact ⟨by simp, B⟩

end Go.Proofs.Ytodbbacmdjcheaa
