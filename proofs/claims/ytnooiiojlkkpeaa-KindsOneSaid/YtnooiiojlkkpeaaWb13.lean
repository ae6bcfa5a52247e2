/- The walk of the law KindsOne. -/
import Derived.Test.YtnooiiojlkkpeaaC13e
set_option linter.unusedVariables false
set_option linter.unusedSimpArgs false
namespace Go.Proofs.Ytnooiiojlkkpeaa
open Go.RowKit L02 L05 L13

set_option maxRecDepth 100000 in
set_option maxHeartbeats 8000000 in
theorem KindsOne_walk (v0 : Value) (l : List UInt8) (v1 : Value) (m : List UInt8) (a b : UInt64) (w : World) (h0 : Byts w v0 l) (h1 : Byts w v1 m) :
    Calls Try.prog 4 #[v0, v1, .int .u64 a.toNat, .int .u64 b.toNat] w fun e w' => e = .returned (.bool true) ∧ Below w.heap.size w w' := by
  have B : Below w.heap.size w w := Below.refl _ _
  have l1 := Rd.len h0 Try.underlying22
  have l2 := Rd.len h1 Try.underlying22
  have H := Lib.hid h0; have HM := Lib.hid h1; clear h0 h1
  by_cases hb1 : 8 < l.length
  · skip
    go_enter Try.func4, Try.ntmps4
    go_wp2_with fail
    refine (alive13_any _).mono ?_
    rintro e w' ⟨rfl, b⟩
    replace B := B.trans (b.mono B.size); clear b
    go_wp2
    go_ret
    exact ⟨rfl, B⟩
  by_cases hb2 : 8 < m.length
  · skip
    go_enter Try.func4, Try.ntmps4
    go_wp2_with fail
    refine (alive13_any _).mono ?_
    rintro e w' ⟨rfl, b⟩
    replace B := B.trans (b.mono B.size); clear b
    go_wp2
    go_ret
    exact ⟨rfl, B⟩
  obtain ⟨e1, he1⟩ : ∃ e, e = kErr l := ⟨_, rfl⟩
  obtain ⟨e2, he2⟩ : ∃ e, e = kErr m := ⟨_, rfl⟩
  obtain ⟨c, hc⟩ : ∃ c, c = w0 l := ⟨_, rfl⟩
  obtain ⟨d, hd⟩ : ∃ d, d = w1 l := ⟨_, rfl⟩
  obtain ⟨c2, hc2⟩ : ∃ c, c = w0 m := ⟨_, rfl⟩
  obtain ⟨d2, hd2⟩ : ∃ d, d = w1 m := ⟨_, rfl⟩
  obtain ⟨L, hL⟩ : ∃ L, L = rdL a b := ⟨_, rfl⟩
  obtain ⟨r, hr⟩ : ∃ r, r = rdE a b := ⟨_, rfl⟩
  obtain ⟨q, hq⟩ : ∃ q, q = decide (m = l) := ⟨_, rfl⟩
  have A1 := fun w h => KCheck_any v0 l e1 he1 w h
  have A2 := fun w h => KWrite_any v0 l c d e1 hc hd he1 w h
  have A3 := fun w h => KCheck_any v1 m e2 he2 w h
  have A4 := fun w h => KWrite_any v1 m c2 d2 e2 hc2 hd2 he2 w h
  have A5 := fun w => KRead_any a b L r hL hr w
  have H1 := Lib.hid A1; have H2 := Lib.hid A2; have H3 := Lib.hid A3; have H4 := Lib.hid A4; have H5 := Lib.hid A5
  have R1 : e1 = 0 → l = rdL c d ∧ 0 = rdE c d := fun h => by
    obtain ⟨p1, p2⟩ := rd_of_write (he1.symm.trans h)
    rw [← hc, ← hd] at p1 p2
    exact ⟨p2.symm, by rw [rdE, if_pos p1]⟩
  have R2 : e1 = 0 → e2 = 0 → ((c2.toNat : Int) == (c.toNat : Int)) = q := fun h1 h2 => by
    rw [hq, Bool.eq_iff_iff, beq_iff_eq, decide_eq_true_iff]
    constructor
    · intro h
      have h3 : c2 = c := UInt64.toNat_inj.1 (by omega)
      rw [hc, hc2] at h3
      exact w0_inj (he2.symm.trans h2) (he1.symm.trans h1) h3
    · intro h; rw [hc, hc2, h]
  have R3 : (r = 50 ∧ L = []) ∨ (r = 0 ∧ a = w0 L ∧ b = w1 L ∧ 0 = kErr L) := by
    by_cases h : RdOk a b
    · have hL1 : L = dig a (nOf a) := by rw [hL, rdL, if_pos h]
      exact .inr ⟨by rw [hr, rdE, if_pos h], by rw [hL1]; exact h.2.2.1.symm, by rw [hL1]; exact h.2.2.2.symm, by rw [hL1]; exact h.2.1.symm⟩
    · exact .inl ⟨by rw [hr, rdE, if_neg h], by rw [hL, rdL, if_neg h]⟩
  have hsd : (m == l) = q := by rw [hq, Bool.eq_iff_iff, beq_iff_eq, decide_eq_true_iff]

  have s0 := fun W (h : Below w.heap.size w W) => (H.out.below h).str (P := Try.prog) (dst := 9) Try.underlying22 Try.underlying5 Try.underlying9
  have s1 := fun W (h : Below w.heap.size w W) => (HM.out.below h).str (P := Try.prog) (dst := 9) Try.underlying22 Try.underlying5 Try.underlying9
  have S0 := Lib.hid s0; have S1 := Lib.hid s1
  have K1 : e1 = 0 ∨ (e1 == 0) = false := by by_cases h : e1 = 0; exact .inl h; exact .inr (by rw [beq_eq_false_iff_ne]; exact h)
  have K2 : e2 = 0 ∨ (e2 == 0) = false := by by_cases h : e2 = 0; exact .inl h; exact .inr (by rw [beq_eq_false_iff_ne]; exact h)
  clear A1 A2 A3 A4 A5 s0 s1 he1 he2 hc hd hc2 hd2 hL hr hq
  rcases K1 with rfl | hne1
  · obtain ⟨z4, z5⟩ := R1 rfl
    have A6 := fun w => KRead_any c d l 0 z4 z5 w
    have H6 := Lib.hid A6; clear A6 z4 z5 R1
    rcases K2 with rfl | hne2
    · have hcc := R2 rfl rfl
      clear R2
      rcases R3 with ⟨rfl, rfl⟩ | ⟨rfl, z1, z2, z3⟩
      · skip
        go_enter Try.func4, Try.ntmps4
        go_wp2_with fail
        refine (alive13_any _).mono ?_
        rintro e w' ⟨rfl, b⟩
        replace B := B.trans (b.mono B.size); clear b
        go_wp2_with fail
        refine (H1.out _ (H.out.below B)).mono ?_
        rintro e w2 ⟨rfl, rfl⟩
        go_wp2_with fail
        refine (H2.out _ (H.out.below B)).mono ?_
        rintro e w' ⟨rfl, b⟩
        replace B := B.trans (b.mono B.size); clear b
        go_wp2_with fail
        refine calls_gen (fun Wv => Bx Wv (w'.heap.size) (29) (#[.int .u64 c.toNat, .int .u64 d.toNat]) ∧ Below w'.heap.size w' Wv) ⟨((Bx.at_ (by simp))), ((Below.refl _ w').alloc (by simp <;> omega) _)⟩ ?_
        rintro w' ⟨g1, b⟩
        replace B := B.trans (b.mono B.size); clear b
        have c_g1 := g1.cell; have f_g1 := g1.free; have a_g1 := fun o => (g1.alloc o).cell; have d_g1 := fun o o2 => ((g1.alloc o).alloc o2).cell; have e_g1 := fun o => (g1.alloc o).free
        go_wp2_with fail
        refine (H6.out _).mono ?_
        rintro e w' ⟨x1, rfl, o1, b⟩
        try clear c_g1 f_g1 a_g1 d_g1 e_g1
        replace g1 := g1.below b; have c_g1 := g1.cell; have f_g1 := g1.free; have a_g1 := fun o => (g1.alloc o).cell; have d_g1 := fun o o2 => ((g1.alloc o).alloc o2).cell; have e_g1 := fun o => (g1.alloc o).free; replace B := B.trans (b.mono B.size); clear b
        have t1 := o1.rd.str (P := Try.prog) (dst := 9) Try.underlying22 Try.underlying5 Try.underlying9
        have t2 := S0.out _ B
        go_wp2_with fail
        clear t1 t2
        refine (H3.out _ (HM.out.below B)).mono ?_
        rintro e w2 ⟨rfl, rfl⟩
        go_wp2_with fail
        refine (H4.out _ (HM.out.below B)).mono ?_
        rintro e w' ⟨rfl, b⟩
        try clear c_g1 f_g1 a_g1 d_g1 e_g1
        replace g1 := g1.below b; have c_g1 := g1.cell; have f_g1 := g1.free; have a_g1 := fun o => (g1.alloc o).cell; have d_g1 := fun o o2 => ((g1.alloc o).alloc o2).cell; have e_g1 := fun o => (g1.alloc o).free; replace o1 := o1.below b; replace B := B.trans (b.mono B.size); clear b
        have t3 := S0.out _ (B.alloc B.size (.cells #[.int .u64 c2.toNat, .int .u64 d2.toNat] 29))
        have t4 := S1.out _ (B.alloc B.size (.cells #[.int .u64 c2.toNat, .int .u64 d2.toNat] 29))
        go_wp2_with fail
        clear t3 t4
        refine calls_gen (fun Wv => Below w'.heap.size w' Wv) ((Below.refl _ w').alloc (by simp <;> omega) _) ?_
        intro w' b
        try clear c_g1 f_g1 a_g1 d_g1 e_g1
        replace g1 := g1.below b; have c_g1 := g1.cell; have f_g1 := g1.free; have a_g1 := fun o => (g1.alloc o).cell; have d_g1 := fun o o2 => ((g1.alloc o).alloc o2).cell; have e_g1 := fun o => (g1.alloc o).free; replace o1 := o1.below b; replace B := B.trans (b.mono B.size); clear b
        go_wp2_with fail
        refine (H5.out _).mono ?_
        rintro e w' ⟨x2, rfl, o2, b⟩
        try clear c_g1 f_g1 a_g1 d_g1 e_g1
        replace g1 := g1.below b; have c_g1 := g1.cell; have f_g1 := g1.free; have a_g1 := fun o => (g1.alloc o).cell; have d_g1 := fun o o2 => ((g1.alloc o).alloc o2).cell; have e_g1 := fun o => (g1.alloc o).free; replace o1 := o1.below b; replace B := B.trans (b.mono B.size); clear b
        have l3 := Rd.len o2.rd Try.underlying22
        go_wp2
        go_ret
        exact ⟨rfl, B⟩
      · have A7 := fun v w h => KWrite_any v L a b 0 z1 z2 z3 w h
        have H7 := Lib.hid A7; clear A7 z1 z2 z3
        go_enter Try.func4, Try.ntmps4
        go_wp2_with fail
        refine (alive13_any _).mono ?_
        rintro e w' ⟨rfl, b⟩
        replace B := B.trans (b.mono B.size); clear b
        go_wp2_with fail
        refine (H1.out _ (H.out.below B)).mono ?_
        rintro e w2 ⟨rfl, rfl⟩
        go_wp2_with fail
        refine (H2.out _ (H.out.below B)).mono ?_
        rintro e w' ⟨rfl, b⟩
        replace B := B.trans (b.mono B.size); clear b
        go_wp2_with fail
        refine calls_gen (fun Wv => Bx Wv (w'.heap.size) (29) (#[.int .u64 c.toNat, .int .u64 d.toNat]) ∧ Below w'.heap.size w' Wv) ⟨((Bx.at_ (by simp))), ((Below.refl _ w').alloc (by simp <;> omega) _)⟩ ?_
        rintro w' ⟨g1, b⟩
        replace B := B.trans (b.mono B.size); clear b
        have c_g1 := g1.cell; have f_g1 := g1.free; have a_g1 := fun o => (g1.alloc o).cell; have d_g1 := fun o o2 => ((g1.alloc o).alloc o2).cell; have e_g1 := fun o => (g1.alloc o).free
        go_wp2_with fail
        refine (H6.out _).mono ?_
        rintro e w' ⟨x1, rfl, o1, b⟩
        try clear c_g1 f_g1 a_g1 d_g1 e_g1
        replace g1 := g1.below b; have c_g1 := g1.cell; have f_g1 := g1.free; have a_g1 := fun o => (g1.alloc o).cell; have d_g1 := fun o o2 => ((g1.alloc o).alloc o2).cell; have e_g1 := fun o => (g1.alloc o).free; replace B := B.trans (b.mono B.size); clear b
        have t1 := o1.rd.str (P := Try.prog) (dst := 9) Try.underlying22 Try.underlying5 Try.underlying9
        have t2 := S0.out _ B
        go_wp2_with fail
        clear t1 t2
        refine (H3.out _ (HM.out.below B)).mono ?_
        rintro e w2 ⟨rfl, rfl⟩
        go_wp2_with fail
        refine (H4.out _ (HM.out.below B)).mono ?_
        rintro e w' ⟨rfl, b⟩
        try clear c_g1 f_g1 a_g1 d_g1 e_g1
        replace g1 := g1.below b; have c_g1 := g1.cell; have f_g1 := g1.free; have a_g1 := fun o => (g1.alloc o).cell; have d_g1 := fun o o2 => ((g1.alloc o).alloc o2).cell; have e_g1 := fun o => (g1.alloc o).free; replace o1 := o1.below b; replace B := B.trans (b.mono B.size); clear b
        have t3 := S0.out _ (B.alloc B.size (.cells #[.int .u64 c2.toNat, .int .u64 d2.toNat] 29))
        have t4 := S1.out _ (B.alloc B.size (.cells #[.int .u64 c2.toNat, .int .u64 d2.toNat] 29))
        go_wp2_with fail
        clear t3 t4
        refine calls_gen (fun Wv => Below w'.heap.size w' Wv) ((Below.refl _ w').alloc (by simp <;> omega) _) ?_
        intro w' b
        try clear c_g1 f_g1 a_g1 d_g1 e_g1
        replace g1 := g1.below b; have c_g1 := g1.cell; have f_g1 := g1.free; have a_g1 := fun o => (g1.alloc o).cell; have d_g1 := fun o o2 => ((g1.alloc o).alloc o2).cell; have e_g1 := fun o => (g1.alloc o).free; replace o1 := o1.below b; replace B := B.trans (b.mono B.size); clear b
        go_wp2_with fail
        refine (H5.out _).mono ?_
        rintro e w' ⟨x2, rfl, o2, b⟩
        try clear c_g1 f_g1 a_g1 d_g1 e_g1
        replace g1 := g1.below b; have c_g1 := g1.cell; have f_g1 := g1.free; have a_g1 := fun o => (g1.alloc o).cell; have d_g1 := fun o o2 => ((g1.alloc o).alloc o2).cell; have e_g1 := fun o => (g1.alloc o).free; replace o1 := o1.below b; replace B := B.trans (b.mono B.size); clear b
        go_wp2_with fail
        refine (H7.out _ _ o2.rd).mono ?_
        rintro e w' ⟨rfl, b⟩
        try clear c_g1 f_g1 a_g1 d_g1 e_g1
        replace g1 := g1.below b; have c_g1 := g1.cell; have f_g1 := g1.free; have a_g1 := fun o => (g1.alloc o).cell; have d_g1 := fun o o2 => ((g1.alloc o).alloc o2).cell; have e_g1 := fun o => (g1.alloc o).free; replace o1 := o1.below b; replace o2 := o2.below b; replace B := B.trans (b.mono B.size); clear b
        have q9 := fun W => pair_eql a b a b true (by simp) W
        go_wp2
        go_ret
        exact ⟨rfl, B.alloc B.size _⟩
    · clear R2
      rcases R3 with ⟨rfl, rfl⟩ | ⟨rfl, z1, z2, z3⟩
      · skip
        go_enter Try.func4, Try.ntmps4
        go_wp2_with fail
        refine (alive13_any _).mono ?_
        rintro e w' ⟨rfl, b⟩
        replace B := B.trans (b.mono B.size); clear b
        go_wp2_with fail
        refine (H1.out _ (H.out.below B)).mono ?_
        rintro e w2 ⟨rfl, rfl⟩
        go_wp2_with fail
        refine (H2.out _ (H.out.below B)).mono ?_
        rintro e w' ⟨rfl, b⟩
        replace B := B.trans (b.mono B.size); clear b
        go_wp2_with fail
        refine calls_gen (fun Wv => Bx Wv (w'.heap.size) (29) (#[.int .u64 c.toNat, .int .u64 d.toNat]) ∧ Below w'.heap.size w' Wv) ⟨((Bx.at_ (by simp))), ((Below.refl _ w').alloc (by simp <;> omega) _)⟩ ?_
        rintro w' ⟨g1, b⟩
        replace B := B.trans (b.mono B.size); clear b
        have c_g1 := g1.cell; have f_g1 := g1.free; have a_g1 := fun o => (g1.alloc o).cell; have d_g1 := fun o o2 => ((g1.alloc o).alloc o2).cell; have e_g1 := fun o => (g1.alloc o).free
        go_wp2_with fail
        refine (H6.out _).mono ?_
        rintro e w' ⟨x1, rfl, o1, b⟩
        try clear c_g1 f_g1 a_g1 d_g1 e_g1
        replace g1 := g1.below b; have c_g1 := g1.cell; have f_g1 := g1.free; have a_g1 := fun o => (g1.alloc o).cell; have d_g1 := fun o o2 => ((g1.alloc o).alloc o2).cell; have e_g1 := fun o => (g1.alloc o).free; replace B := B.trans (b.mono B.size); clear b
        have t1 := o1.rd.str (P := Try.prog) (dst := 9) Try.underlying22 Try.underlying5 Try.underlying9
        have t2 := S0.out _ B
        go_wp2_with fail
        clear t1 t2
        refine (H3.out _ (HM.out.below B)).mono ?_
        rintro e w2 ⟨rfl, rfl⟩
        go_wp2_with fail
        refine (H5.out _).mono ?_
        rintro e w' ⟨x2, rfl, o2, b⟩
        try clear c_g1 f_g1 a_g1 d_g1 e_g1
        replace g1 := g1.below b; have c_g1 := g1.cell; have f_g1 := g1.free; have a_g1 := fun o => (g1.alloc o).cell; have d_g1 := fun o o2 => ((g1.alloc o).alloc o2).cell; have e_g1 := fun o => (g1.alloc o).free; replace o1 := o1.below b; replace B := B.trans (b.mono B.size); clear b
        have l3 := Rd.len o2.rd Try.underlying22
        go_wp2
        go_ret
        exact ⟨rfl, B⟩
      · have A7 := fun v w h => KWrite_any v L a b 0 z1 z2 z3 w h
        have H7 := Lib.hid A7; clear A7 z1 z2 z3
        go_enter Try.func4, Try.ntmps4
        go_wp2_with fail
        refine (alive13_any _).mono ?_
        rintro e w' ⟨rfl, b⟩
        replace B := B.trans (b.mono B.size); clear b
        go_wp2_with fail
        refine (H1.out _ (H.out.below B)).mono ?_
        rintro e w2 ⟨rfl, rfl⟩
        go_wp2_with fail
        refine (H2.out _ (H.out.below B)).mono ?_
        rintro e w' ⟨rfl, b⟩
        replace B := B.trans (b.mono B.size); clear b
        go_wp2_with fail
        refine calls_gen (fun Wv => Bx Wv (w'.heap.size) (29) (#[.int .u64 c.toNat, .int .u64 d.toNat]) ∧ Below w'.heap.size w' Wv) ⟨((Bx.at_ (by simp))), ((Below.refl _ w').alloc (by simp <;> omega) _)⟩ ?_
        rintro w' ⟨g1, b⟩
        replace B := B.trans (b.mono B.size); clear b
        have c_g1 := g1.cell; have f_g1 := g1.free; have a_g1 := fun o => (g1.alloc o).cell; have d_g1 := fun o o2 => ((g1.alloc o).alloc o2).cell; have e_g1 := fun o => (g1.alloc o).free
        go_wp2_with fail
        refine (H6.out _).mono ?_
        rintro e w' ⟨x1, rfl, o1, b⟩
        try clear c_g1 f_g1 a_g1 d_g1 e_g1
        replace g1 := g1.below b; have c_g1 := g1.cell; have f_g1 := g1.free; have a_g1 := fun o => (g1.alloc o).cell; have d_g1 := fun o o2 => ((g1.alloc o).alloc o2).cell; have e_g1 := fun o => (g1.alloc o).free; replace B := B.trans (b.mono B.size); clear b
        have t1 := o1.rd.str (P := Try.prog) (dst := 9) Try.underlying22 Try.underlying5 Try.underlying9
        have t2 := S0.out _ B
        go_wp2_with fail
        clear t1 t2
        refine (H3.out _ (HM.out.below B)).mono ?_
        rintro e w2 ⟨rfl, rfl⟩
        go_wp2_with fail
        refine (H5.out _).mono ?_
        rintro e w' ⟨x2, rfl, o2, b⟩
        try clear c_g1 f_g1 a_g1 d_g1 e_g1
        replace g1 := g1.below b; have c_g1 := g1.cell; have f_g1 := g1.free; have a_g1 := fun o => (g1.alloc o).cell; have d_g1 := fun o o2 => ((g1.alloc o).alloc o2).cell; have e_g1 := fun o => (g1.alloc o).free; replace o1 := o1.below b; replace B := B.trans (b.mono B.size); clear b
        go_wp2_with fail
        refine (H7.out _ _ o2.rd).mono ?_
        rintro e w' ⟨rfl, b⟩
        try clear c_g1 f_g1 a_g1 d_g1 e_g1
        replace g1 := g1.below b; have c_g1 := g1.cell; have f_g1 := g1.free; have a_g1 := fun o => (g1.alloc o).cell; have d_g1 := fun o o2 => ((g1.alloc o).alloc o2).cell; have e_g1 := fun o => (g1.alloc o).free; replace o1 := o1.below b; replace o2 := o2.below b; replace B := B.trans (b.mono B.size); clear b
        have q9 := fun W => pair_eql a b a b true (by simp) W
        go_wp2
        go_ret
        exact ⟨rfl, B.alloc B.size _⟩
  · clear R1 R2 K2
    rcases R3 with ⟨rfl, rfl⟩ | ⟨rfl, z1, z2, z3⟩
    · skip
      go_enter Try.func4, Try.ntmps4
      go_wp2_with fail
      refine (alive13_any _).mono ?_
      rintro e w' ⟨rfl, b⟩
      replace B := B.trans (b.mono B.size); clear b
      go_wp2_with fail
      refine (H1.out _ (H.out.below B)).mono ?_
      rintro e w2 ⟨rfl, rfl⟩
      go_wp2_with fail
      refine (H5.out _).mono ?_
      rintro e w' ⟨x2, rfl, o2, b⟩
      replace B := B.trans (b.mono B.size); clear b
      have l3 := Rd.len o2.rd Try.underlying22
      go_wp2
      go_ret
      exact ⟨rfl, B⟩
    · have A7 := fun v w h => KWrite_any v L a b 0 z1 z2 z3 w h
      have H7 := Lib.hid A7; clear A7 z1 z2 z3
      go_enter Try.func4, Try.ntmps4
      go_wp2_with fail
      refine (alive13_any _).mono ?_
      rintro e w' ⟨rfl, b⟩
      replace B := B.trans (b.mono B.size); clear b
      go_wp2_with fail
      refine (H1.out _ (H.out.below B)).mono ?_
      rintro e w2 ⟨rfl, rfl⟩
      go_wp2_with fail
      refine (H5.out _).mono ?_
      rintro e w' ⟨x2, rfl, o2, b⟩
      replace B := B.trans (b.mono B.size); clear b
      go_wp2_with fail
      refine (H7.out _ _ o2.rd).mono ?_
      rintro e w' ⟨rfl, b⟩
      replace o2 := o2.below b; replace B := B.trans (b.mono B.size); clear b
      have q9 := fun W => pair_eql a b a b true (by simp) W
      go_wp2
      go_ret
      exact ⟨rfl, B.alloc B.size _⟩
end Go.Proofs.Ytnooiiojlkkpeaa
